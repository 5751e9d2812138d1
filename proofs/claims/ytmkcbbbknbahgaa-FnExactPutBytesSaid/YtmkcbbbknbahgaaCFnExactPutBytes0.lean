/- Part 0 of the proof of FnExactPutBytes: contracts of functions that the law reaches. Conditions: none. -/
import Derived.Test.YtmkcbbbknbahgaaProg
import Derived.Below
import Derived.Deep.Draws
import Derived.Deep.AppendLies
import Derived.Maps.AppendAt
import Derived.OwnWalk
import Derived.Laws.BytesArg
import Derived.Laws.MakeOwn
import Derived.Laws.OwnMore
import Derived.Deep.OwnRows
import Derived.Tactics
import Derived.Lib.ConvBytes
import Derived.Laws.Slices
import Derived.WalkKit
import Derived.KernelRfl
import Derived.RowKit3
import Derived.Deep.LoopGhost
import Derived.Deep.QuietTactic
import Derived.BigQuiet
import Derived.WideLaws
import Derived.Deep.DeepCutAuto
import Derived.Deep.CutBlock
import Derived.Deep.RegionHeld3
import Derived.Laws.Rows
import Derived.Lib.AppendStr
import Derived.ArgAppend
import Derived.Laws.IdiomCopy
import Derived.OrdersHeld
import Derived.Laws.BitsLemmas
import Derived.RowKit
import Derived.Test.YtmkcbbbknbahgaaVFnExactPutBytesWords
import Derived.Test.YtmkcbbbknbahgaaVFnExactPutBytesLast
import Derived.Test.YtmkcbbbknbahgaaVFnExactPutBytesTab
import Derived.Test.YtmkcbbbknbahgaaVFnExactPutBytesApart
import Derived.Test.YtmkcbbbknbahgaaVFnExactPutBytesFoot
import Derived.Test.YtmkcbbbknbahgaaVFnExactPutBytesKept
import Derived.Test.YtmkcbbbknbahgaaVFnExactPutBytesShare
import Derived.Test.YtmkcbbbknbahgaaVFnExactPutBytesN
import Derived.Laws.StructEq
import Derived.Test.YtmkcbbbknbahgaaVFnExactPutBytesRepsOne
import Derived.Test.YtmkcbbbknbahgaaVFnExactPutBytesInv
import Derived.Test.YtmkcbbbknbahgaaVFnExactPutBytesInvWords
import Derived.Test.YtmkcbbbknbahgaaVFnExactPutBytesGuard
import Derived.Test.YtmkcbbbknbahgaaVFnExactPutBytesMore
import Derived.Deep.Slices
import Derived.ProofKit
import Derived.DataElems
import Derived.Lib.SliceRun
namespace Go.Proofs.Ytmkcbbbknbahgaa.P
open Go.RowKit Go.Proofs.YtmkcbbbknbahgaaW.PrintWords Go.Proofs.YtmkcbbbknbahgaaW.PrintLast Go.Proofs.YtmkcbbbknbahgaaW.PrintMore
attribute [local go_sem] max2_int min2_int max_two min_two max_three min_three max_four min_four   -- for this text's walks alone
set_option linter.unusedVariables false
set_option linter.unusedSimpArgs false

def errW : Option Int → Value
  | none => .nilIface
  | some c => .iface 0 (.int .i64 c)

theorem errW_none : errW none = .nilIface := rfl

theorem errW_some (c : Int) : errW (some c) = .iface 0 (.int .i64 c) := rfl

theorem info5 : (Try.prog.info? 5).map (fun i => (i.zero, i.size, i.bytes)) = some (some (.int .u8 0), 1, 1) := by kernel_rfl

theorem info29 : (Try.prog.info? 29).map (fun i => (i.zero, i.size, i.bytes)) = some (some (.slice none 0 0), 1, 24) := by kernel_rfl

def rd_L1 (xs : List (List Int)) (i : Int) : (List Int) := xs.getD i.toNat ([] : List Int)

theorem at_L1 {w : World} {A : Option Addr} {n : Nat} {xs : List (List Int)} (h : Kd.C (Kd.slice 5 (Kd.int .u8)) w A n xs) (i : Int) (h0 : 0 ≤ i) (h1 : i < n) : ∃ ad A0 c0, A = some ad ∧ w.cell? (ad.add i.toNat) = some (.slice A0 (rd_L1 xs i).length c0) ∧ (rd_L1 xs i).length ≤ c0 ∧ (Kd.int .u8).C w A0 (rd_L1 xs i).length (rd_L1 xs i) := by
  obtain ⟨ad, c, e, _, hK, hc0⟩ := Kd.C_get h ([] : List Int) i h0 h1
  have hc : ∀ j u, c[j]? = some u → w.cell? (ad.add (i.toNat * 1 + j)) = some u := hc0
  obtain ⟨A0, c0, rfl, l0, g0⟩ := hK
  exact ⟨ad, A0, c0, e, by have hq := hc 0 _ rfl; rwa [Nat.mul_one, Nat.add_zero] at hq, l0, g0⟩

structure S32 where
  f0 : Int
  f1 : Int
  f2 : Int
  f3 : Int

def z32 : S32 := ⟨(0 : Int), (0 : Int), (0 : Int), (0 : Int)⟩

def k32 : Kd S32 := Kd.iso (Kd.pair (Kd.int .i64) (Kd.pair (Kd.int .i64) (Kd.pair (Kd.int .i64) (Kd.int .i64)))) (fun x : S32 => (x.f0, x.f1, x.f2, x.f3))

theorem k32_open {w : World} {x : S32} {cs : List Value} (h : k32.K w x cs) : cs = [.int .i64 x.f0, .int .i64 x.f1, .int .i64 x.f2, .int .i64 x.f3] := by
  obtain ⟨_, _, rfl, rfl, ⟨_, _, rfl, rfl, ⟨_, _, rfl, rfl, rfl⟩⟩⟩ := h
  exact rfl

theorem k32_mkM (w : World) (base : Nat) (ok : Nat → Prop) (x : S32)  : k32.M w base ok x [.int .i64 x.f0, .int .i64 x.f1, .int .i64 x.f2, .int .i64 x.f3] := ⟨[.int .i64 x.f0], [.int .i64 x.f1, .int .i64 x.f2, .int .i64 x.f3], rfl, rfl, ⟨[.int .i64 x.f1], [.int .i64 x.f2, .int .i64 x.f3], rfl, rfl, ⟨[.int .i64 x.f2], [.int .i64 x.f3], rfl, rfl, rfl⟩⟩⟩

def rd_T32 (xs : List S32) (i : Int) : S32 := xs.getD i.toNat z32

theorem at_T32 {w : World} {A : Option Addr} {n : Nat} {xs : List S32} (h : Kd.C k32 w A n xs) (i : Int) (h0 : 0 ≤ i) (h1 : i < n) : ∃ ad , A = some ad ∧ w.cell? (ad.add (i.toNat * 4)) = some (.int .i64 (rd_T32 xs i).f0) ∧ w.cell? ⟨(ad.add (i.toNat * 4)).block, (ad.add (i.toNat * 4)).off + 1, none⟩ = some (.int .i64 (rd_T32 xs i).f1) ∧ w.cell? ⟨(ad.add (i.toNat * 4)).block, (ad.add (i.toNat * 4)).off + 2, none⟩ = some (.int .i64 (rd_T32 xs i).f2) ∧ w.cell? ⟨(ad.add (i.toNat * 4)).block, (ad.add (i.toNat * 4)).off + 3, none⟩ = some (.int .i64 (rd_T32 xs i).f3) := by
  obtain ⟨ad, c, e, _, hK, hc0⟩ := Kd.C_get h z32 i h0 h1
  have hc : ∀ j u, c[j]? = some u → w.cell? (ad.add (i.toNat * 4 + j)) = some u := hc0
  obtain rfl := k32_open hK
  exact ⟨ad, e, hc 0 _ rfl, by rw [← add_field _ _ 1 (by omega)]; exact hc 1 _ rfl, by rw [← add_field _ _ 2 (by omega)]; exact hc 2 _ rfl, by rw [← add_field _ _ 3 (by omega)]; exact hc 3 _ rfl⟩
section
variable {α : Type}

theorem bset_ {g i : Nat} {w w1 : World} {x : Value} (h : Below w.heap.size w w1) (hg : Aside0 (w.heap.size ≤ g)) : Below w.heap.size w (w1.setCell ⟨g, i, none⟩ x) := below_set h hg.out

theorem gE_ {b g : Nat} {w0 w1 w : World} (k : Aside0 (Below b w0 w1)) (hg : g = w.heap.size) (h : Below b w0 w1 → Below w0.heap.size w0 w := by intro HB0_; repeat (first | (with_reducible first | exact HB0_ | apply below_alloc | apply pw_below_drewN | apply below_drew1 | refine bset_ ?_ (by assumption)) | exact HB0_)) : Aside0 (w0.heap.size ≤ g) := ⟨hg ▸ below_size (h k.out)⟩

theorem sL_ {d : Kd α} {e b : Nat} {w0 wk w w1 : World} {ok : Nat → Prop} {v : Value} {x : List α} (ho : Kd.S d e w1 w.heap.size ok v x) (k : Aside0 (Below b w0 wk)) (h : Below b w0 wk → Below w0.heap.size w0 w := by intro HB0_; repeat (first | (with_reducible first | exact HB0_ | apply below_alloc | apply pw_below_drewN | apply below_drew1 | refine bset_ ?_ (by assumption)) | exact HB0_)) : Kd.S d e w1 w0.heap.size ok v x := Kd.S_lower ho (below_size (h k.out))

theorem rL_ {d : Kd α} {e b : Nat} {w0 wk w w1 : World} {ok : Nat → Prop} {v : Value} {x : List α} (ho : Kd.R d e w1 w.heap.size ok v x) (k : Aside0 (Below b w0 wk)) (h : Below b w0 wk → Below w0.heap.size w0 w := by intro HB0_; repeat (first | (with_reducible first | exact HB0_ | apply below_alloc | apply pw_below_drewN | apply below_drew1 | refine bset_ ?_ (by assumption)) | exact HB0_)) : Kd.R d e w1 w0.heap.size ok v x := Kd.R_lower ho (below_size (h k.out))

theorem bK_ {p q : Prop} (k : Aside0 q) (h : q → p := by intro BK0_; (with_reducible repeat (first | refine blk_drewN ?_ _ | refine blk_drew ?_ | refine blk_alloc ?_ _)); exact BK0_) : p := h k.out

theorem rK_ {p q : Prop} (k : Aside0 q) (h : q → p := by intro BK0_; (with_reducible repeat (first | apply Kd.R_alloc | apply Kd.R_drewN | apply Kd.R_drew)); exact BK0_) : p := h k.out

theorem sK_ {p q : Prop} (k : Aside0 q) (h : q → p := by intro BK0_; (with_reducible repeat (first | apply Kd.S_alloc | apply Kd.S_drewN | apply Kd.S_drew)); exact BK0_) : p := h k.out

theorem bB_ {w0 w w1 : World} {g : Nat} {o : Obj} (k : Aside0 (w0.heap[g]? = some o)) (hb : Below w.heap.size w w1) (h : w0.heap[g]? = some o → w.heap[g]? = some o := by intro BK0_; (with_reducible repeat (first | refine blk_drewN ?_ _ | refine blk_drew ?_ | refine blk_alloc ?_ _)); exact BK0_) : Aside0 (w1.heap[g]? = some o) := ⟨blk_below (h k.out) hb⟩

theorem nB_ {w0 w : World} {g g' : Nat} {o : Obj} (k : Aside0 (w0.heap[g]? = some o)) (hg : g' = w.heap.size) (h : w0.heap[g]? = some o → w.heap[g]? = some o := by intro BK0_; (with_reducible repeat (first | refine blk_drewN ?_ _ | refine blk_drew ?_ | refine blk_alloc ?_ _)); exact BK0_) : Aside0 (g ≠ g') := ⟨hg ▸ Nat.ne_of_lt (blk_lt (h k.out))⟩

theorem nA_ {w0 w : World} {g g' : Nat} {o : Obj} (k : Aside0 (w0.heap[g]? = some o)) (hg : g' = w.heap.size) (h : w0.heap[g]? = some o → w.heap[g]? = some o := by intro BK0_; (with_reducible repeat (first | refine blk_drewN ?_ _ | refine blk_drew ?_ | refine blk_alloc ?_ _)); exact BK0_) : Aside0 (g' ≠ g) := ⟨hg ▸ Nat.ne_of_gt (blk_lt (h k.out))⟩

theorem ba_ : type_of% @below_alloc := @below_alloc

theorem bn_ : type_of% @pw_below_drewN := @pw_below_drewN

theorem bd_ : type_of% @below_drew1 := @below_drew1

theorem kb1_ : type_of% @blk_drewN := @blk_drewN

theorem kb2_ : type_of% @blk_drew := @blk_drew

theorem kb3_ : type_of% @blk_alloc := @blk_alloc

theorem kr1_ : type_of% @Kd.R_alloc := @Kd.R_alloc

theorem kr2_ : type_of% @Kd.R_drewN := @Kd.R_drewN

theorem kr3_ : type_of% @Kd.R_drew := @Kd.R_drew

theorem ks1_ : type_of% @Kd.S_alloc := @Kd.S_alloc

theorem ks2_ : type_of% @Kd.S_drewN := @Kd.S_drewN

theorem ks3_ : type_of% @Kd.S_drew := @Kd.S_drew

theorem gs_ {p : Prop} (h : p := by first | (go_simp; done) | (go_simp; rfl)) : p := h

theorem ar_ {p : Prop} (h : p := by (try simp only [List.map_toArray, List.map_cons, List.map_nil]); first | done | rfl | (simp only [List.length_drop, List.length_take]; rfl)) : p := h

theorem as_ {p : Prop} (h : p := by first | (with_reducible assumption) | assumption) : p := h

theorem er_ {p : Prop} (h : p := by first | rfl | (simp [errW_none, errW_some] <;> rfl) | (simp [*, errW_none, errW_some] <;> rfl)) : p := h

theorem far_ {w : World} {g b : Nat} {t : TypeId} {cs : Array Value} (h : w.heap[g]? = some (.cells cs t (0, 0))) (hp : Aside0 (g ≠ b)) (i : Nat) (u : Value) : (w.setCell ⟨b, i, none⟩ u).heap[g]? = some (.cells cs t (0, 0)) := blk_far h hp.out u

theorem zc1_ {w : World} {g : Nat} {t : TypeId} {a0 : Value} (k : Aside0 (w.heap[g]? = some (.cells #[a0] t (0, 0)))) : w.cell? ⟨g, 0, none⟩ = some a0 ∧ w.frozen? ⟨g, 0, none⟩ = false := ⟨(blk_cell k.out 0).trans rfl, blk_frozen k.out 0⟩

theorem put1_ {w : World} {g : Nat} {t : TypeId} {a0 u0 : Value} (h : w.heap[g]? = some (.cells #[a0] t (0, 0))) : (w.setCell ⟨g, 0, none⟩ u0).heap[g]? = some (.cells #[u0] t (0, 0)) := blk_put (cs' := #[u0]) (h) 0 u0 rfl

theorem rf1_ {d : Kd α} {e b : Nat} {w : World} {ok : Nat → Prop} {v : Value} {x : List α} {u0 : Value} (g : Nat) (h : Kd.R d e w b ok v x) (hk : ∀ k, ok k → k ≠ g) : Kd.R d e (w.setCell ⟨g, 0, none⟩ u0) b ok v x := Kd.R_far (p := ⟨g, 0, none⟩) (h) hk u0

theorem sf1_ {d : Kd α} {e b : Nat} {w : World} {ok : Nat → Prop} {v : Value} {x : List α} {u0 : Value} (g : Nat) (h : Kd.S d e w b ok v x) (hk : ∀ k, ok k → k ≠ g) : Kd.S d e (w.setCell ⟨g, 0, none⟩ u0) b ok v x := Kd.S_far (p := ⟨g, 0, none⟩) (h) hk u0

theorem zc4_ {w : World} {g : Nat} {t : TypeId} {a0 a1 a2 a3 : Value} (k : Aside0 (w.heap[g]? = some (.cells #[a0, a1, a2, a3] t (0, 0)))) : w.cell? ⟨g, 0, none⟩ = some a0 ∧ w.cell? ⟨g, 1, none⟩ = some a1 ∧ w.cell? ⟨g, 2, none⟩ = some a2 ∧ w.cell? ⟨g, 3, none⟩ = some a3 ∧ w.frozen? ⟨g, 0, none⟩ = false ∧ w.frozen? ⟨g, 1, none⟩ = false ∧ w.frozen? ⟨g, 2, none⟩ = false ∧ w.frozen? ⟨g, 3, none⟩ = false := ⟨(blk_cell k.out 0).trans rfl, (blk_cell k.out 1).trans rfl, (blk_cell k.out 2).trans rfl, (blk_cell k.out 3).trans rfl, blk_frozen k.out 0, blk_frozen k.out 1, blk_frozen k.out 2, blk_frozen k.out 3⟩

theorem put4_ {w : World} {g : Nat} {t : TypeId} {a0 a1 a2 a3 u0 u1 u2 u3 : Value} (h : w.heap[g]? = some (.cells #[a0, a1, a2, a3] t (0, 0))) : ((((w.setCell ⟨g, 0, none⟩ u0).setCell ⟨g, 1, none⟩ u1).setCell ⟨g, 2, none⟩ u2).setCell ⟨g, 3, none⟩ u3).heap[g]? = some (.cells #[u0, u1, u2, u3] t (0, 0)) := blk_put (cs' := #[u0, u1, u2, u3]) (blk_put (cs' := #[u0, u1, u2, a3]) (blk_put (cs' := #[u0, u1, a2, a3]) (blk_put (cs' := #[u0, a1, a2, a3]) (h) 0 u0 rfl) 1 u1 rfl) 2 u2 rfl) 3 u3 rfl

theorem rf4_ {d : Kd α} {e b : Nat} {w : World} {ok : Nat → Prop} {v : Value} {x : List α} {u0 u1 u2 u3 : Value} (g : Nat) (h : Kd.R d e w b ok v x) (hk : ∀ k, ok k → k ≠ g) : Kd.R d e ((((w.setCell ⟨g, 0, none⟩ u0).setCell ⟨g, 1, none⟩ u1).setCell ⟨g, 2, none⟩ u2).setCell ⟨g, 3, none⟩ u3) b ok v x := Kd.R_far (p := ⟨g, 3, none⟩) (Kd.R_far (p := ⟨g, 2, none⟩) (Kd.R_far (p := ⟨g, 1, none⟩) (Kd.R_far (p := ⟨g, 0, none⟩) (h) hk u0) hk u1) hk u2) hk u3

theorem sf4_ {d : Kd α} {e b : Nat} {w : World} {ok : Nat → Prop} {v : Value} {x : List α} {u0 u1 u2 u3 : Value} (g : Nat) (h : Kd.S d e w b ok v x) (hk : ∀ k, ok k → k ≠ g) : Kd.S d e ((((w.setCell ⟨g, 0, none⟩ u0).setCell ⟨g, 1, none⟩ u1).setCell ⟨g, 2, none⟩ u2).setCell ⟨g, 3, none⟩ u3) b ok v x := Kd.S_far (p := ⟨g, 3, none⟩) (Kd.S_far (p := ⟨g, 2, none⟩) (Kd.S_far (p := ⟨g, 1, none⟩) (Kd.S_far (p := ⟨g, 0, none⟩) (h) hk u0) hk u1) hk u2) hk u3

theorem zc7_ {w : World} {g : Nat} {t : TypeId} {a0 a1 a2 a3 a4 a5 a6 : Value} (k : Aside0 (w.heap[g]? = some (.cells #[a0, a1, a2, a3, a4, a5, a6] t (0, 0)))) : w.cell? ⟨g, 0, none⟩ = some a0 ∧ w.cell? ⟨g, 1, none⟩ = some a1 ∧ w.cell? ⟨g, 2, none⟩ = some a2 ∧ w.cell? ⟨g, 3, none⟩ = some a3 ∧ w.cell? ⟨g, 4, none⟩ = some a4 ∧ w.cell? ⟨g, 5, none⟩ = some a5 ∧ w.cell? ⟨g, 6, none⟩ = some a6 ∧ w.frozen? ⟨g, 0, none⟩ = false ∧ w.frozen? ⟨g, 1, none⟩ = false ∧ w.frozen? ⟨g, 2, none⟩ = false ∧ w.frozen? ⟨g, 3, none⟩ = false ∧ w.frozen? ⟨g, 4, none⟩ = false ∧ w.frozen? ⟨g, 5, none⟩ = false ∧ w.frozen? ⟨g, 6, none⟩ = false := ⟨(blk_cell k.out 0).trans rfl, (blk_cell k.out 1).trans rfl, (blk_cell k.out 2).trans rfl, (blk_cell k.out 3).trans rfl, (blk_cell k.out 4).trans rfl, (blk_cell k.out 5).trans rfl, (blk_cell k.out 6).trans rfl, blk_frozen k.out 0, blk_frozen k.out 1, blk_frozen k.out 2, blk_frozen k.out 3, blk_frozen k.out 4, blk_frozen k.out 5, blk_frozen k.out 6⟩

theorem put7_ {w : World} {g : Nat} {t : TypeId} {a0 a1 a2 a3 a4 a5 a6 u0 u1 u2 u3 u4 u5 u6 : Value} (h : w.heap[g]? = some (.cells #[a0, a1, a2, a3, a4, a5, a6] t (0, 0))) : (((((((w.setCell ⟨g, 0, none⟩ u0).setCell ⟨g, 1, none⟩ u1).setCell ⟨g, 2, none⟩ u2).setCell ⟨g, 3, none⟩ u3).setCell ⟨g, 4, none⟩ u4).setCell ⟨g, 5, none⟩ u5).setCell ⟨g, 6, none⟩ u6).heap[g]? = some (.cells #[u0, u1, u2, u3, u4, u5, u6] t (0, 0)) := blk_put (cs' := #[u0, u1, u2, u3, u4, u5, u6]) (blk_put (cs' := #[u0, u1, u2, u3, u4, u5, a6]) (blk_put (cs' := #[u0, u1, u2, u3, u4, a5, a6]) (blk_put (cs' := #[u0, u1, u2, u3, a4, a5, a6]) (blk_put (cs' := #[u0, u1, u2, a3, a4, a5, a6]) (blk_put (cs' := #[u0, u1, a2, a3, a4, a5, a6]) (blk_put (cs' := #[u0, a1, a2, a3, a4, a5, a6]) (h) 0 u0 rfl) 1 u1 rfl) 2 u2 rfl) 3 u3 rfl) 4 u4 rfl) 5 u5 rfl) 6 u6 rfl

theorem sf7_ {d : Kd α} {e b : Nat} {w : World} {ok : Nat → Prop} {v : Value} {x : List α} {u0 u1 u2 u3 u4 u5 u6 : Value} (g : Nat) (h : Kd.S d e w b ok v x) (hk : ∀ k, ok k → k ≠ g) : Kd.S d e (((((((w.setCell ⟨g, 0, none⟩ u0).setCell ⟨g, 1, none⟩ u1).setCell ⟨g, 2, none⟩ u2).setCell ⟨g, 3, none⟩ u3).setCell ⟨g, 4, none⟩ u4).setCell ⟨g, 5, none⟩ u5).setCell ⟨g, 6, none⟩ u6) b ok v x := Kd.S_far (p := ⟨g, 6, none⟩) (Kd.S_far (p := ⟨g, 5, none⟩) (Kd.S_far (p := ⟨g, 4, none⟩) (Kd.S_far (p := ⟨g, 3, none⟩) (Kd.S_far (p := ⟨g, 2, none⟩) (Kd.S_far (p := ⟨g, 1, none⟩) (Kd.S_far (p := ⟨g, 0, none⟩) (h) hk u0) hk u1) hk u2) hk u3) hk u4) hk u5) hk u6

theorem fB_ {p q : Prop} (k : Aside0 q) (h : q → p := by intro BK0_; (with_reducible repeat first | apply kb1_ | apply kb2_ | apply kb3_ | apply put7_ | apply put4_ | apply put1_ | refine far_ ?_ (by assumption) _ _); exact BK0_) : p := h k.out

theorem cS_ {p q : Prop} (k : q) (h : q → p := by intro C0_; repeat (first | exact C0_ | (with_reducible refine Kd.C_alloc ?_ _) | (with_reducible refine Kd.C_drewN ?_ _) | (with_reducible refine Kd.C_drew ?_))) : p := h k
end
end Go.Proofs.Ytmkcbbbknbahgaa.P
namespace Go.Proofs.Ytmkcbbbknbahgaa.P
open Go.RowKit Go.Proofs.YtmkcbbbknbahgaaW.PrintWords Go.Proofs.YtmkcbbbknbahgaaW.PrintLast Go.Proofs.YtmkcbbbknbahgaaW.PrintMore
set_option linter.unusedVariables false
set_option linter.unusedSimpArgs false
section
variable {H : Type} {enc : TypeId × Value → H} {P : Program} {w : World} {base : Nat} {spare : Nat → Bool} {held : Bool}

theorem mapM_each {α β : Type} {f : α → Option β} : ∀ {l : List α} {r : List β}, l.mapM f = some r → ∀ a ∈ l, ∃ y, f a = some y
  | [], _, _, a, ha => by cases ha
  | x :: l, r, h, a, ha => by
    rw [List.mapM_cons] at h
    simp only [Option.bind_eq_bind, Option.bind_eq_some_iff] at h
    obtain ⟨y, hy, ys, hys, _⟩ := h
    rcases List.mem_cons.1 ha with rfl | ha
    · exact ⟨y, hy⟩
    · exact mapM_each hys a ha

/-- A struct's reading is its fields' readings. -/
theorem trod_fields {t : TypeId} {fs : Array Field} {fuel : Nat} {cs : List Value} {x : DataW H × List MemPlace} (ht : P.underlying t = some (.struct fs)) (h : DataW.trod enc P w base spare held fuel t cs = some x) :
    cs.length = P.cellsOf t ∧ ∃ n : Nat, ∀ (i : Nat) (f : Field), fs[i]? = some f → ∃ y, DataW.trod enc P w base spare held n f.type ((cs.drop f.offset).take (P.cellsOf f.type)) = some y := by
  cases fuel with
  | zero => simp [DataW.trod] at h
  | succ n =>
    unfold DataW.trod at h
    rw [ht] at h
    have hs : (if cs.length = P.cellsOf t then (fs.toList.mapM fun f => DataW.trod enc P w base spare held n f.type ((cs.drop f.offset).take (P.cellsOf f.type))).map fun xs => ((.agg (xs.map (·.1)) : DataW H), xs.flatMap (·.2)) else none) = some x := by
      rcases cs with _ | ⟨c, _ | ⟨c2, cs⟩⟩
      · exact h
      · cases c <;> exact h
      · exact h
    by_cases hl : cs.length = P.cellsOf t
    · rw [if_pos hl] at hs
      cases hm : fs.toList.mapM (fun f => DataW.trod enc P w base spare held n f.type ((cs.drop f.offset).take (P.cellsOf f.type))) with
      | none => rw [hm] at hs; simp at hs
      | some r => exact ⟨hl, n, fun i f hf => mapM_each hm f (by rw [← Array.getElem?_toList] at hf; exact List.mem_of_getElem? hf)⟩
    · rw [if_neg hl] at hs
      simp at hs

theorem list_of_each {α : Type} {Q : Nat → α → Prop} : ∀ n, (∀ i, i < n → ∃ y, Q i y) → ∃ xs : List α, xs.length = n ∧ ∀ i p, xs[i]? = some p → Q i p
  | 0, _ => ⟨[], rfl, fun i p h => by simp at h⟩
  | n + 1, h => by
    obtain ⟨xs, hl, hx⟩ := list_of_each n (fun i hi => h i (by omega))
    obtain ⟨y, hy⟩ := h n (by omega)
    refine ⟨xs ++ [y], by simp [hl], fun i p hp => ?_⟩
    by_cases hi : i < xs.length
    · rw [List.getElem?_append_left hi] at hp
      exact hx i p hp
    · have h1 : i < (xs ++ [y]).length := (List.getElem?_eq_some_iff.1 hp).1
      have : i = xs.length := by simp at h1; omega
      subst this
      rw [List.getElem?_append_right (Nat.le_refl _)] at hp
      simp at hp
      subst hp
      rw [hl]
      exact hy

/-- What the reader tells of a type's cells: a value of the kind, of which R holds. -/
def Opens (P : Program) (H : Type) {α : Type} (d : Kd α) (R : α → Prop) (t : TypeId) : Prop :=
  ∀ {enc : TypeId × Value → H} {w : World} {base : Nat} {spare : Nat → Bool} {held : Bool} {fuel : Nat} {cs : List Value} {x : DataW H × List MemPlace}, DataW.trod enc P w base spare held fuel t cs = some x → cs.length = d.sz → ∃ y, d.K w y cs ∧ R y

theorem opens_int {k : IntKind} {t : TypeId} (ht : P.underlying t = some (.int k)) : Opens P H (Kd.int k) (fun n => (Lit.int k n).wf = true) t := by
  intro enc w base spare held fuel cs x h hl
  obtain ⟨n, hcs, hn⟩ := DataW.trod_int ht h
  exact ⟨n, hcs, hn.2⟩

/-- A slice whose elements can be read. -/
theorem opens_slice {α : Type} {d : Kd α} {R : α → Prop} {t e : TypeId} (ht : P.underlying t = some (.slice e)) (hd : Opens P H d R e) (hc : P.cellsOf e = d.sz) : Opens P H (Kd.slice e d) (fun xs => xs.length ≤ maxLen ∧ ∀ x ∈ xs, R x) t := by
  intro enc w base spare held fuel cs x h hl
  rcases Go.Deep.open_slice ht h with ⟨rfl, _⟩ | ⟨a, len, cap, m, n, D, Pl, rfl, hb, hlc, hm, hmm, hx, hel⟩
  · exact ⟨[], ⟨none, 0, rfl, Nat.le_refl _, ⟨rfl, by simp, fun h => by simp at h⟩⟩, ⟨Nat.zero_le _, fun x hx => by cases hx⟩⟩
  · have hlm : len ≤ m := by rw [hmm]; split <;> omega
    have hml : maxLen = 9223372036854775807 := rfl
    obtain ⟨xs, hlen, hxs⟩ := list_of_each (Q := fun i y => ∃ cs', w.cells? base (a.add (i * P.cellsOf e)) (P.cellsOf e) = some cs' ∧ d.K w y cs' ∧ R y) len (fun i hi => by
      obtain ⟨cs', h1, h2⟩ := hel i (by omega)
      obtain ⟨_, hl', _⟩ := World.cells?_some h1
      obtain ⟨y, hy, hr⟩ := hd h2 (by rw [hl', hc])
      exact ⟨y, cs', h1, hy, hr⟩)
    refine ⟨xs, ⟨some a, cap, by rw [hlen], by omega, ⟨rfl, by omega, fun _ => ⟨a, rfl, fun j p hp => ?_⟩⟩⟩, ⟨by omega, fun y hy => ?_⟩⟩
    · obtain ⟨cs', h1, h2, _⟩ := hxs j p hp
      obtain ⟨_, hl', hcell⟩ := World.cells?_some h1
      refine ⟨cs', by rw [hl', hc], h2, fun i u hu => ?_⟩
      have hi : i < cs'.length := (List.getElem?_eq_some_iff.1 hu).1
      have := hcell i (by omega)
      rw [hc] at this
      rw [← Addr.add_add, this, hu]
    · obtain ⟨j, hj⟩ := List.getElem?_of_mem hy
      obtain ⟨_, _, _, hr⟩ := hxs j y hj
      exact hr
end
end Go.Proofs.Ytmkcbbbknbahgaa.P
namespace Go.Proofs.Ytmkcbbbknbahgaa.P
open Go.RowKit Go.Proofs.YtmkcbbbknbahgaaW.PrintWords Go.Proofs.YtmkcbbbknbahgaaW.PrintLast Go.Proofs.YtmkcbbbknbahgaaW.PrintMore
set_option linter.unusedVariables false
set_option linter.unusedSimpArgs false

theorem uncons_ {α : Type} {l : List α} {n : Nat} (h : l.length = n + 1) : ∃ a t, l = a :: t ∧ t.length = n := by
  cases l with
  | nil => cases h
  | cons a t => exact ⟨a, t, rfl, Nat.succ.inj h⟩

theorem ce28 : Try.prog.cellsOf 28 = 7 := by kernel_rfl

theorem ce24 : Try.prog.cellsOf 24 = 1 := by kernel_rfl

theorem ce22 : Try.prog.cellsOf 22 = 1 := by kernel_rfl

theorem ce5 : Try.prog.cellsOf 5 = 1 := by kernel_rfl

theorem ce29 : Try.prog.cellsOf 29 = 1 := by kernel_rfl

theorem ce26 : Try.prog.cellsOf 26 = 4 := by kernel_rfl

theorem ce3 : Try.prog.cellsOf 3 = 1 := by kernel_rfl

theorem cells_24 {H : Type} {enc : TypeId × Value → H} {w : World} {base : Nat} {spare : Nat → Bool} {held : Bool} {fuel : Nat} {cs : List Value} {x : DataW H × List MemPlace} (h : DataW.trod enc Try.prog w base spare held fuel 24 cs = some x) :
    ∃ (A0 : Option Addr) (c0 : Nat) (l0 : List (List Int)), cs = [.slice A0 l0.length c0] ∧ Kd.C (Kd.slice 5 (Kd.int .u8)) w A0 l0.length l0 ∧ l0.length ≤ c0 ∧ (l0.length ≤ maxLen ∧ ∀ z ∈ l0, (z.length ≤ maxLen ∧ ∀ z2 ∈ z, (Lit.int .u8 z2).wf = true)) ∧ True := by
  obtain ⟨hl, n, hf⟩ := trod_fields Try.underlying24 h
  rw [ce24] at hl
  have hl0 := hl
  clear hl
  obtain ⟨x0, cs0, e_, hl1⟩ := uncons_ hl0
  subst e_
  clear hl0
  have e_ := List.eq_nil_of_length_eq_zero hl1
  subst e_
  obtain ⟨y0, q0⟩ := hf 0 _ rfl
  replace q0 : DataW.trod enc Try.prog w base spare held n 22 (List.take (Try.prog.cellsOf 22) (List.drop 0 [x0])) = some y0 := q0
  rw [ce22] at q0
  replace q0 : DataW.trod enc Try.prog w base spare held n 22 [x0] = some y0 := q0
  obtain ⟨l0, ⟨A0, c0, e_, HC0, HR0⟩, W0⟩ := (opens_slice (P := Try.prog) Try.underlying22 (opens_slice (P := Try.prog) Try.underlying29 (opens_int (P := Try.prog) Try.underlying5) ce5) ce29) q0 rfl
  obtain rfl := (List.cons.inj e_).1
  clear e_
  exact ⟨A0, c0, l0, rfl, HR0, HC0, W0, trivial⟩

theorem cells_26 {H : Type} {enc : TypeId × Value → H} {w : World} {base : Nat} {spare : Nat → Bool} {held : Bool} {fuel : Nat} {cs : List Value} {x : DataW H × List MemPlace} (h : DataW.trod enc Try.prog w base spare held fuel 26 cs = some x) :
    ∃ (a0 : Int) (a1 : Int) (a2 : Int) (a3 : Int), cs = [.int .i64 a0, .int .i64 a1, .int .i64 a2, .int .i64 a3] ∧ (Lit.int .i64 a0).wf = true ∧ (Lit.int .i64 a1).wf = true ∧ (Lit.int .i64 a2).wf = true ∧ (Lit.int .i64 a3).wf = true ∧ True := by
  obtain ⟨hl, n, hf⟩ := trod_fields Try.underlying26 h
  rw [ce26] at hl
  have hl0 := hl
  clear hl
  obtain ⟨x0, cs0, e_, hl1⟩ := uncons_ hl0
  subst e_
  clear hl0
  obtain ⟨x1, cs1, e_, hl2⟩ := uncons_ hl1
  subst e_
  clear hl1
  obtain ⟨x2, cs2, e_, hl3⟩ := uncons_ hl2
  subst e_
  clear hl2
  obtain ⟨x3, cs3, e_, hl4⟩ := uncons_ hl3
  subst e_
  clear hl3
  have e_ := List.eq_nil_of_length_eq_zero hl4
  subst e_
  obtain ⟨y0, q0⟩ := hf 0 _ rfl
  replace q0 : DataW.trod enc Try.prog w base spare held n 3 (List.take (Try.prog.cellsOf 3) (List.drop 0 [x0, x1, x2, x3])) = some y0 := q0
  rw [ce3] at q0
  replace q0 : DataW.trod enc Try.prog w base spare held n 3 [x0] = some y0 := q0
  obtain ⟨y1, q1⟩ := hf 1 _ rfl
  replace q1 : DataW.trod enc Try.prog w base spare held n 3 (List.take (Try.prog.cellsOf 3) (List.drop 1 [x0, x1, x2, x3])) = some y1 := q1
  rw [ce3] at q1
  replace q1 : DataW.trod enc Try.prog w base spare held n 3 [x1] = some y1 := q1
  obtain ⟨y2, q2⟩ := hf 2 _ rfl
  replace q2 : DataW.trod enc Try.prog w base spare held n 3 (List.take (Try.prog.cellsOf 3) (List.drop 2 [x0, x1, x2, x3])) = some y2 := q2
  rw [ce3] at q2
  replace q2 : DataW.trod enc Try.prog w base spare held n 3 [x2] = some y2 := q2
  obtain ⟨y3, q3⟩ := hf 3 _ rfl
  replace q3 : DataW.trod enc Try.prog w base spare held n 3 (List.take (Try.prog.cellsOf 3) (List.drop 3 [x0, x1, x2, x3])) = some y3 := q3
  rw [ce3] at q3
  replace q3 : DataW.trod enc Try.prog w base spare held n 3 [x3] = some y3 := q3
  obtain ⟨a0, e_, W0⟩ := DataW.trod_int Try.underlying3 q0
  obtain rfl := (List.cons.inj e_).1
  clear e_
  replace W0 := W0.2
  obtain ⟨a1, e_, W1⟩ := DataW.trod_int Try.underlying3 q1
  obtain rfl := (List.cons.inj e_).1
  clear e_
  replace W1 := W1.2
  obtain ⟨a2, e_, W2⟩ := DataW.trod_int Try.underlying3 q2
  obtain rfl := (List.cons.inj e_).1
  clear e_
  replace W2 := W2.2
  obtain ⟨a3, e_, W3⟩ := DataW.trod_int Try.underlying3 q3
  obtain rfl := (List.cons.inj e_).1
  clear e_
  replace W3 := W3.2
  exact ⟨a0, a1, a2, a3, rfl, W0, W1, W2, W3, trivial⟩

theorem cells_28 {H : Type} {enc : TypeId × Value → H} {w : World} {base : Nat} {spare : Nat → Bool} {held : Bool} {fuel : Nat} {cs : List Value} {x : DataW H × List MemPlace} (h : DataW.trod enc Try.prog w base spare held fuel 28 cs = some x) :
    ∃ (A0 : Option Addr) (c0 : Nat) (l0 : List (List Int)) (a1 : Int) (a2 : Int) (a3 : Int) (a4 : Int) (a5 : Int) (a6 : Int), cs = [.slice A0 l0.length c0, .int .i64 a1, .int .i64 a2, .int .i64 a3, .int .i64 a4, .int .i64 a5, .int .i64 a6] ∧ Kd.C (Kd.slice 5 (Kd.int .u8)) w A0 l0.length l0 ∧ l0.length ≤ c0 ∧ (l0.length ≤ maxLen ∧ ∀ z ∈ l0, (z.length ≤ maxLen ∧ ∀ z2 ∈ z, (Lit.int .u8 z2).wf = true)) ∧ (Lit.int .i64 a1).wf = true ∧ (Lit.int .i64 a2).wf = true ∧ (Lit.int .i64 a3).wf = true ∧ (Lit.int .i64 a4).wf = true ∧ (Lit.int .i64 a5).wf = true ∧ (Lit.int .i64 a6).wf = true ∧ True := by
  obtain ⟨hl, n, hf⟩ := trod_fields Try.underlying28 h
  rw [ce28] at hl
  have hl0 := hl
  clear hl
  obtain ⟨x0, cs0, e_, hl1⟩ := uncons_ hl0
  subst e_
  clear hl0
  obtain ⟨x1, cs1, e_, hl2⟩ := uncons_ hl1
  subst e_
  clear hl1
  obtain ⟨x2, cs2, e_, hl3⟩ := uncons_ hl2
  subst e_
  clear hl2
  obtain ⟨x3, cs3, e_, hl4⟩ := uncons_ hl3
  subst e_
  clear hl3
  obtain ⟨x4, cs4, e_, hl5⟩ := uncons_ hl4
  subst e_
  clear hl4
  obtain ⟨x5, cs5, e_, hl6⟩ := uncons_ hl5
  subst e_
  clear hl5
  obtain ⟨x6, cs6, e_, hl7⟩ := uncons_ hl6
  subst e_
  clear hl6
  have e_ := List.eq_nil_of_length_eq_zero hl7
  subst e_
  obtain ⟨y0, q0⟩ := hf 0 _ rfl
  replace q0 : DataW.trod enc Try.prog w base spare held n 24 (List.take (Try.prog.cellsOf 24) (List.drop 0 [x0, x1, x2, x3, x4, x5, x6])) = some y0 := q0
  rw [ce24] at q0
  replace q0 : DataW.trod enc Try.prog w base spare held n 24 [x0] = some y0 := q0
  obtain ⟨y1, q1⟩ := hf 1 _ rfl
  replace q1 : DataW.trod enc Try.prog w base spare held n 26 (List.take (Try.prog.cellsOf 26) (List.drop 1 [x0, x1, x2, x3, x4, x5, x6])) = some y1 := q1
  rw [ce26] at q1
  replace q1 : DataW.trod enc Try.prog w base spare held n 26 [x1, x2, x3, x4] = some y1 := q1
  obtain ⟨y2, q2⟩ := hf 2 _ rfl
  replace q2 : DataW.trod enc Try.prog w base spare held n 3 (List.take (Try.prog.cellsOf 3) (List.drop 5 [x0, x1, x2, x3, x4, x5, x6])) = some y2 := q2
  rw [ce3] at q2
  replace q2 : DataW.trod enc Try.prog w base spare held n 3 [x5] = some y2 := q2
  obtain ⟨y3, q3⟩ := hf 3 _ rfl
  replace q3 : DataW.trod enc Try.prog w base spare held n 3 (List.take (Try.prog.cellsOf 3) (List.drop 6 [x0, x1, x2, x3, x4, x5, x6])) = some y3 := q3
  rw [ce3] at q3
  replace q3 : DataW.trod enc Try.prog w base spare held n 3 [x6] = some y3 := q3
  obtain ⟨A0, c0, l0, e_0, HR0, HC0, W0, _⟩ := cells_24 q0
  obtain ⟨d_, e_1⟩ := List.cons.inj e_0
  subst d_
  clear e_0
  obtain ⟨a1, a2, a3, a4, e_0, W1, W2, W3, W4, _⟩ := cells_26 q1
  obtain ⟨d_, e_1⟩ := List.cons.inj e_0
  subst d_
  clear e_0
  obtain ⟨d_, e_2⟩ := List.cons.inj e_1
  subst d_
  clear e_1
  obtain ⟨d_, e_3⟩ := List.cons.inj e_2
  subst d_
  clear e_2
  obtain ⟨d_, e_4⟩ := List.cons.inj e_3
  subst d_
  clear e_3
  obtain ⟨a5, e_, W5⟩ := DataW.trod_int Try.underlying3 q2
  obtain rfl := (List.cons.inj e_).1
  clear e_
  replace W5 := W5.2
  obtain ⟨a6, e_, W6⟩ := DataW.trod_int Try.underlying3 q3
  obtain rfl := (List.cons.inj e_).1
  clear e_
  replace W6 := W6.2
  exact ⟨A0, c0, l0, a1, a2, a3, a4, a5, a6, rfl, HR0, HC0, W0, W1, W2, W3, W4, W5, W6, trivial⟩
end Go.Proofs.Ytmkcbbbknbahgaa.P
namespace Go.Proofs.Ytmkcbbbknbahgaa.P
open Go.RowKit Go.Proofs.YtmkcbbbknbahgaaW.PrintWords Go.Proofs.YtmkcbbbknbahgaaW.PrintLast Go.Proofs.YtmkcbbbknbahgaaW.PrintMore

/-- Block k holds cells of one of these types. -/
def Ty (w : World) (E : List Nat) (k : Nat) : Prop := ∃ q, q ∈ E ∧ ∃ cells, w.heap[k]? = some (.cells cells q (0, 0))

/-- The blocks from lo on and below hi, of these types. -/
def Seg (lo hi : Nat) (w : World) (E : List Nat) (k : Nat) : Prop := lo ≤ k ∧ k < hi ∧ Ty w E k
end Go.Proofs.Ytmkcbbbknbahgaa.P
namespace Go.Proofs.Ytmkcbbbknbahgaa.P
open Go.RowKit Go.Proofs.YtmkcbbbknbahgaaW.PrintWords Go.Proofs.YtmkcbbbknbahgaaW.PrintLast Go.Proofs.YtmkcbbbknbahgaaW.PrintMore
attribute [local go_sem] max2_int min2_int max_two min_two max_three min_three max_four min_four   -- for this text's walks alone
set_option linter.unusedVariables false
set_option linter.unusedSimpArgs false

def laws_markByteS.l0 : Nat → List Int → Int → Int → Option (Int × List Int)
 | 0, _, _, _ => none
 | k + 1, x0, x1, x5 => if x5 < (x0.length : Int) then (if 0 ≤ x5 then (laws_markByteS.l0 k (x0.set (x5 : Int).toNat ((x1) % 256)) (wrap64 (x1 + 1)) (wrap64 (x5 + 1))) else (none)) else (some (x1, x0))

def laws_markByteS.f (k : Nat) (l0 : List Int) (a1 : Int) : Option (Int × List Int) := laws_markByteS.l0 k l0 a1 0

set_option maxHeartbeats 8000000 in
set_option maxRecDepth 100000 in
theorem laws_markByteS.calls (k : Nat) (P0_ : Nat → Prop) (u9000_ : Value) (l0 : List Int) (a1 : Int) (r1 : Int) (r2 : List Int) (w0 w : World) (hB : Below w0.heap.size w0 w) (ho0 : Kd.R (Kd.int .u8) 5 w w0.heap.size P0_ u9000_ l0) (h : laws_markByteS.f k l0 a1 = some (r1, r2)) :
  Calls Try.prog 21 #[u9000_, .int .i64 a1] w fun e w' => e = .returned (.int .i64 r1) ∧ Kd.R (Kd.int .u8) 5 w' w0.heap.size (fun k_ => (P0_ k_ ∨ w.heap.size ≤ k_)) u9000_ r2 ∧ Below w0.heap.size w0 w' ∧ Kept w w' (fun k_ => P0_ k_) := by
 have HO0 := Aside0.mk (show Kd.R (Kd.int .u8) 5 w w0.heap.size (fun k_ => (P0_ k_ ∨ w.heap.size ≤ k_)) u9000_ l0 from Kd.R_mono ho0 (fun k_ hk => (.inl hk)))
 have HK := Aside0.mk (Kept.refl w (fun k_ => P0_ k_))
 have HW0 := Aside0.mk hB.size
 have HB := Aside0.mk hB
 clear hB
 have H : (laws_markByteS.l0 k l0 a1 0) = some (r1, r2) := h
 clear h
 have H' := Aside0.mk H
 clear H
 go_enter Try.func21, Try.ntmps21
 go_wp2
 go_loopg [1, 5] k (fun kq v1 v5 w' => ∃ (x0_1 : List Int) (x1_1 : Int) (x5_1 : Int), v1 = .int .i64 x1_1 ∧ v5 = .int .i64 x5_1 ∧ Aside0 (laws_markByteS.l0 kq x0_1 x1_1 x5_1 = some (r1, r2)) ∧ Aside0 (kq ≤ k) ∧ Aside0 (Kd.R (Kd.int .u8) 5 w' w0.heap.size (fun k_ => (P0_ k_ ∨ w.heap.size ≤ k_)) u9000_ x0_1) ∧ Aside0 (Kept w w' (fun k_ => P0_ k_)) ∧ Aside0 (Below w0.heap.size w0 w'))
 case atStart => exact ⟨(l0), (a1), (0), (by first | rfl | (simp; done) | (simp [*]; done)), (by first | rfl | (simp; done) | (simp [*]; done)), H', ⟨Nat.le_refl _⟩, ⟨by (with_reducible repeat first | apply kr1_ | apply kr2_ | apply kr3_); exact HO0.out⟩, ⟨by repeat (first | (with_reducible first | exact HK.out | apply Kept.alloc | apply Kept.drewN | apply Kept.drew) | exact HK.out)⟩, ⟨by repeat (first | (with_reducible first | exact HB.out | apply below_alloc | apply pw_below_drewN | apply below_drew1) | exact HB.out)⟩⟩
 case round =>
  clear H'
  try clear c2
  try clear p2
  obtain ⟨x0_1, x1_1, x5_1, rfl, rfl, HA, HK1, HO_0, HK, HB⟩ := hrel
  cases gk with
  | zero => exact absurd HA.out (by simp [laws_markByteS.l0])
  | succ k1 =>
   have H := HA.out
   clear HA
   simp only [laws_markByteS.l0] at H
   by_cases c3 : x5_1 < (x0_1.length : Int)
   ·rw [if_pos c3] at H
    have c3b0 : decide (x5_1 < (x0_1.length : Int)) = true := decide_eq_true c3
    clear c3
    by_cases c4 : 0 ≤ x5_1
    ·rw [if_pos c4] at H
     have c4b0 : decide (0 ≤ x5_1) = true := decide_eq_true c4
     clear c4
     obtain ⟨y358, hy358⟩ : ∃ y_ : List Int, y_ = (x0_1.set (x5_1 : Int).toNat ((x1_1) % 256)) := ⟨_, rfl⟩
     replace H : (laws_markByteS.l0 k1 y358 (wrap64 (x1_1 + 1)) (wrap64 (x5_1 + 1))) = some (r1, r2) := by first | (rw [hy358]; with_reducible exact H) | (have H2_ := (Option.bind_some _ _).symm.trans H; rw [hy358]; with_reducible exact H2_) | (have H2_ := (Option.bind_some _ _).symm.trans H; with_reducible exact H2_) | with_reducible exact H | (rw [hy358]; exact H) | exact H
     have Ny358 := Aside0.mk hy358
     clear hy358
     have H' := Aside0.mk H
     clear H
     obtain ⟨Ao6, co6, eo6⟩ := Kd.R_slice HO_0.out
     subst eo6
     have p5 : 0 ≤ (x5_1 : Int) := of_decide_eq_true as_
     have q5 : (x5_1 : Int) < ((x0_1.length : Int) : Int) := of_decide_eq_true as_
     obtain ⟨go5, co5, eo5, gb5, gl5, cl5, HG5⟩ := Kd.R_form HO_0.out (by omega)
     (first | cases eo5 | (injection eo5 with ea_ en_ ec_; (first | subst ea_ | (injection ea_ with ea_; subst ea_)); subst ec_; clear en_))
     have GB5 := Aside0.mk gb5
     have GG5 := Aside0.mk HG5
     clear gb5 gl5 HG5
     have HMgo5 := Aside0.mk (show (P0_ go5 ∨ w.heap.size ≤ go5) from (HO_0.out.1 _ rfl))
     obtain ⟨hx5_0, hf5_0⟩ := Kd.R_celln 0 HO_0.out (x5_1 : Int) p5 q5
     replace p5 := eq_true p5
     replace q5 := eq_true q5
     have HP7 := Kd.R_putg HO_0.out (x5_1 : Int) ((x1_1) % 256)
     go_wp2_with (first | ((with_reducible refine gate_store (t := 5) (p := 16) rfl ?_); refine store_event (t := 5) (p := 16) (v := ?vo_w8) (w1 := (wr.setCell ⟨go5, (x5_1 : Int).toNat, none⟩ (.int .u8 ((x1_1) % 256)))) ?hg ?ho ?hn ?hr ?_; (case ho => rfl); (case hg => rfl); (case hn => rfl); (case hr => exact gs_); intro w8 hw; have hg : wr.grownBy w8 (some go5) := (by rw [hw]; exact HP7.2); have hp_ : Kd.R (Kd.int .u8) 5 w8 w0.heap.size (fun k_ => (P0_ k_ ∨ w.heap.size ≤ k_)) (.slice (some ⟨go5, 0, none⟩) x0_1.length co6) y358 := (by rw [hw, Ny358.out]; exact HP7.1); clear HP7; replace HB := Aside0.mk ((by rw [hw]; exact below_set (HB.out) GB5.out : Below w0.heap.size w0 w8)); replace HK := Aside0.mk (Kept.of_grown (S := (fun k_ => P0_ k_)) hg (by repeat (first | (with_reducible first | exact HK.out | apply Kept.alloc | apply Kept.drewN | apply Kept.drew) | exact HK.out)) (fun k_ e_ => (HO_0.out.1 k_ e_))); replace HO_0 := Aside0.mk (hp_); clear hg hw hp_))
     go_roundg k1
     case measure => have := HK1.out; omega
     case rel => exact ⟨(y358), (wrap64 (x1_1 + 1)), (wrap64 (x5_1 + 1)), (by first | rfl | (simp; done) | (simp [*]; done)), (by first | rfl | (simp; done) | (simp [*]; done)), H', ⟨by have := HK1.out; omega⟩, ⟨by (with_reducible repeat first | apply kr1_ | apply kr2_ | apply kr3_); exact HO_0.out⟩, ⟨by repeat (first | (with_reducible first | exact HK.out | apply Kept.alloc | apply Kept.drewN | apply Kept.drew) | exact HK.out)⟩, ⟨by repeat (first | (with_reducible first | exact HB.out | apply below_alloc | apply pw_below_drewN | apply below_drew1) | exact HB.out)⟩⟩
    ·rw [if_neg c4] at H
     exact absurd H (by simp)
   ·rw [if_neg c3] at H
    have c3b0 : decide (x5_1 < (x0_1.length : Int)) = false := decide_eq_false c3
    clear c3
    simp only [Option.some.injEq, Prod.mk.injEq] at H
    obtain ⟨rfl, rfl⟩ := H
    obtain ⟨Ao9, co9, eo9⟩ := Kd.R_slice HO_0.out
    subst eo9
    go_wp2
    go_ret
    exact ⟨er_, by (with_reducible repeat first | apply kr1_ | apply kr2_ | apply kr3_); exact HO_0.out, by repeat (first | (with_reducible first | exact HB.out | apply below_alloc | apply pw_below_drewN | apply below_drew1) | exact HB.out), by repeat (first | (with_reducible first | exact HK.out | apply Kept.alloc | apply Kept.drewN | apply Kept.drew) | exact HK.out)⟩
end Go.Proofs.Ytmkcbbbknbahgaa.P
namespace Go.Proofs.Ytmkcbbbknbahgaa.P
open Go.RowKit Go.Proofs.YtmkcbbbknbahgaaW.PrintWords Go.Proofs.YtmkcbbbknbahgaaW.PrintLast Go.Proofs.YtmkcbbbknbahgaaW.PrintMore
set_option linter.unusedVariables false
set_option linter.unusedSimpArgs false

theorem grown_of_kept {w0 w w' : World} {v : Value} (h0 : Below w0.heap.size w0 w) (h1 : Below w0.heap.size w0 w') (hk : Kept w w' (fun k_ => some k_ = v.ownBlock)) : w.grownBy w' v.ownBlock :=
  ⟨h1.os.trans h0.os.symm, h1.tape.trans h0.tape.symm, h1.output.trans h0.output.symm, hk.1, fun k hk1 hk2 => hk.2 k hk1 hk2⟩

def laws_markByteSS.l0 : Nat → List (List Int) → Int → Int → Option (Int × List (List Int))
  | 0, _, _, _ => none
  | k + 1, x0, x1, x5 => if x5 < (x0.length : Int) then (if 0 ≤ x5 then ((laws_markByteS.f k (rd_L1 x0 x5) x1).bind fun t => laws_markByteSS.l0 k (x0.set x5.toNat t.2) t.1 (wrap64 (x5 + 1))) else none) else some (x1, x0)

def laws_markByteSS.f (k : Nat) (l0 : List (List Int)) (a1 : Int) : Option (Int × List (List Int)) := laws_markByteSS.l0 k l0 a1 0

set_option maxHeartbeats 8000000 in
set_option maxRecDepth 100000 in
theorem laws_markByteSS.calls (k : Nat) (P0_ : Nat → Prop) (u : Value) (l0 : List (List Int)) (a1 : Int) (r1 : Int) (r2 : List (List Int)) (w0 w : World) (hB : Below w0.heap.size w0 w) (ho0 : Kd.S (Kd.slice 5 (Kd.int .u8)) 29 w w0.heap.size P0_ u l0) (h : laws_markByteSS.f k l0 a1 = some (r1, r2)) :
    Calls Try.prog 130 #[u, .int .i64 a1] w fun e w' => e = .returned (.int .i64 r1) ∧ Kd.S (Kd.slice 5 (Kd.int .u8)) 29 w' w0.heap.size P0_ u r2 ∧ Below w0.heap.size w0 w' ∧ Kept w w' P0_ := by
  obtain ⟨A, c, rfl⟩ := Kd.S_slice ho0
  obtain ⟨n, hn⟩ : ∃ n, n = l0.length := ⟨_, rfl⟩
  rw [← hn] at ho0 ⊢
  clear hn
  have HO := Aside0.mk ho0
  have HBx := Aside0.mk hB
  have H' := Aside0.mk (show laws_markByteSS.l0 k l0 a1 0 = some (r1, r2) from h)
  clear ho0 hB h
  go_enter Try.func130, Try.ntmps130
  go_wp2
  go_loopg [1, 5] k (fun kq v1 v5 w' => ∃ (x0 : List (List Int)) (x1 x5 : Int), v1 = .int .i64 x1 ∧ v5 = .int .i64 x5 ∧ Aside0 (laws_markByteSS.l0 kq x0 x1 x5 = some (r1, r2)) ∧ Aside0 (Kd.S (Kd.slice 5 (Kd.int .u8)) 29 w' w0.heap.size P0_ (.slice A n c) x0) ∧ Aside0 (Below w0.heap.size w0 w') ∧ Aside0 (Kept w w' P0_))
  case atStart => exact ⟨l0, a1, 0, rfl, rfl, H', HO, HBx, ⟨Kept.refl _ _⟩⟩
  case round =>
    clear H' HO HBx
    obtain ⟨x0, x1, x5, rfl, rfl, HA, HO, HB, HK⟩ := hrel
    obtain ⟨hn, _, hC⟩ := Kd.S_reads' HO.out
    cases gk with
    | zero => exact absurd HA.out (by simp [laws_markByteSS.l0])
    | succ k1 =>
      have H := HA.out
      clear HA
      simp only [laws_markByteSS.l0] at H
      by_cases c1 : x5 < (x0.length : Int)
      · rw [if_pos c1] at H
        by_cases c2 : 0 ≤ x5
        · rw [if_pos c2] at H
          obtain ⟨⟨t1, t2⟩, ht, H⟩ := Option.bind_eq_some_iff.mp H
          obtain ⟨ad, A', c', e, hcell, hlc, hin⟩ := at_L1 hC x5 c2 (by omega)
          cases e
          obtain ⟨oki, ce, hce, hM, hcc, hoki, hbk⟩ := Kd.S_borrow HO.out [] x5 c2 (by omega)
          obtain ⟨ve, rfl, hRe⟩ := hM
          have hve := hcc 0 _ rfl
          rw [Nat.add_zero, show (Kd.slice 5 (Kd.int .u8)).sz = 1 from rfl, Nat.mul_one] at hve
          replace hve := Option.some.inj (hve.symm.trans hcell)
          subst hve
          replace hRe := (show Kd.R (Kd.int .u8) 5 wr w0.heap.size oki (.slice A' (rd_L1 x0 x5).length c') (rd_L1 x0 x5) from hRe)
          have HT := Aside0.mk ht
          have HR := Aside0.mk hRe
          have HBK := Aside0.mk @hbk
          have HOK := Aside0.mk hoki
          have HN := Aside0.mk hn
          have H1 := Aside0.mk H
          have hd : decide (x5 < (n : Int)) = true := decide_eq_true (by omega)
          have hq : (x5 < (n : Int)) = True := eq_true (by omega)
          have hp : (0 ≤ x5) = True := eq_true c2
          clear ht hRe hbk hoki hn H hcc hce hC hin hlc c1 c2
          go_wp2_with fail
          refine (laws_markByteS.calls k1 (fun k_ => some k_ = (Value.slice A' (rd_L1 x0 x5).length c').ownBlock) _ (rd_L1 x0 x5) x1 t1 t2 w0 wr HB.out (Kd.R_tight rfl HR.out) HT.out).mono ?_
          rintro e w' ⟨rfl, hR', hB', hK'⟩
          have hg := grown_of_kept HB.out hB' hK'
          have hR2 := Kd.R_flat (ok' := oki) (fun h => h) hR' (fun k_ hk _ => HR.out.1 k_ hk)
          have hS := HBK.out (x' := t2) hg (fun k_ hk => HR.out.1 k_ hk) (Kd.M_row hR2)
          have HO2 := Aside0.mk hS
          have HB2 := Aside0.mk hB'
          have HK2 := Aside0.mk (HK.out.then_ hK' (fun k_ hk => .inl (HOK.out k_ (HR.out.1 k_ hk.symm)).1))
          clear hR' hB' hK' hg hR2 hS HB HK HBK HR HOK HT hcell
          go_wp2
          go_roundg k1
          case measure => omega
          case rel => exact ⟨_, t1, _, rfl, rfl, H1, HO2, HB2, HK2⟩
        · rw [if_neg c2] at H
          exact absurd H (by simp)
      · rw [if_neg c1] at H
        have hd : decide (x5 < (n : Int)) = false := decide_eq_false (by omega)
        have H1 := Aside0.mk H
        clear H c1 hC hn
        go_wp2
        go_ret
        have h1 := H1.out
        simp only [Option.some.injEq, Prod.mk.injEq] at h1
        obtain ⟨rfl, rfl⟩ := h1
        exact ⟨rfl, HO.out, HB.out, HK.out⟩

set_option maxHeartbeats 4000000 in
set_option maxRecDepth 100000 in
theorem laws_markMemory.calls (k : Nat) (P0_ : Nat → Prop) (u : Value) (l0 : List (List Int)) (a1 : Int) (r1 : Int) (r2 : List (List Int)) (w0 w : World) (hB : Below w0.heap.size w0 w) (ho0 : Kd.S (Kd.slice 5 (Kd.int .u8)) 29 w w0.heap.size P0_ u l0) (h : laws_markByteSS.f k l0 a1 = some (r1, r2)) :
    Calls Try.prog 63 #[.agg #[u], .int .i64 a1] w fun e w' => e = .returned (.int .i64 r1) ∧ Kd.S (Kd.slice 5 (Kd.int .u8)) 29 w' w0.heap.size P0_ u r2 ∧ Below w0.heap.size w0 w' ∧ Kept w w' P0_ := by
  have hu1 := Try.underlying31
  obtain ⟨A, c, rfl⟩ := Kd.S_slice ho0
  have HO := Aside0.mk ho0
  have HB := Aside0.mk hB
  clear ho0 hB
  go_enter Try.func63, Try.ntmps63
  go_wp2_with fail
  have HA := Below.alloc (Below.refl w.heap.size w) (Nat.le_refl _) (.cells #[.slice A l0.length c] 31)
  refine (laws_markByteSS.calls k P0_ _ l0 a1 r1 r2 w0 _ (below_step HB.out HA) (Kd.S_below HO.out HA) h).mono ?_
  rintro e w' ⟨rfl, hS, hB', hK⟩
  have H1 := Aside0.mk hS
  have H2 := Aside0.mk hB'
  have H3 := Aside0.mk ((Kept.of_below HA P0_).then_ hK (fun _ hk => .inl hk))
  clear hS hB' hK HA HO
  go_wp2
  go_ret
  exact ⟨rfl, H1.out, H2.out, H3.out⟩
end Go.Proofs.Ytmkcbbbknbahgaa.P
namespace Go.Proofs.Ytmkcbbbknbahgaa.P
open Go.RowKit Go.Proofs.YtmkcbbbknbahgaaW.PrintWords Go.Proofs.YtmkcbbbknbahgaaW.PrintLast Go.Proofs.YtmkcbbbknbahgaaW.PrintMore
set_option linter.unusedVariables false
set_option linter.unusedSimpArgs false

def laws_markGap.f (k : Nat) (l0 : List (List Int)) (a0_ : Int) : Option (Int × List (List Int)) := (laws_markByteSS.f k l0 a0_).bind fun t0_ => some (t0_.1, t0_.2)

set_option maxHeartbeats 4000000 in
set_option maxRecDepth 100000 in
theorem laws_markGap.calls (k : Nat) (P0 : Nat → Prop) (u0 : Value) (l0 : List (List Int)) (a1 : Int) (a2 : Int) (a3 : Int) (a4 : Int) (a5 : Int) (a6 : Int) (a0_ r_ : Int) (r0 : List (List Int)) (w0 w : World) (hB : Below w0.heap.size w0 w) (ho0 : Kd.S (Kd.slice 5 (Kd.int .u8)) 29 w w0.heap.size P0 u0 l0) (h : laws_markGap.f k l0 a0_ = some (r_, r0)) :
    Calls Try.prog 20 #[.agg #[u0, .int .i64 a1, .int .i64 a2, .int .i64 a3, .int .i64 a4, .int .i64 a5, .int .i64 a6], .int .i64 a0_] w fun e w' => e = .returned (.int .i64 r_) ∧ Kd.S (Kd.slice 5 (Kd.int .u8)) 29 w' w0.heap.size P0 u0 r0 ∧ Below w0.heap.size w0 w' ∧ Kept w w' (fun k => P0 k) := by
  have hu := Try.underlying34
  have hu_Memory := Try.underlying31
  unfold laws_markGap.f at h
  obtain ⟨⟨x0, z0⟩, hc0, h⟩ := Option.bind_eq_some_iff.mp h
  simp only [Option.some.injEq, Prod.mk.injEq] at h
  obtain ⟨rfl, rfl⟩ := h
  obtain ⟨A0, c0, rfl⟩ := Kd.S_slice ho0
  have O0 := Aside0.mk (show Kd.S (Kd.slice 5 (Kd.int .u8)) 29 w w0.heap.size (fun k_ => P0 k_ ∧ k_ < w.heap.size) (.slice A0 l0.length c0) l0 from Kd.S_mono (Kd.S_bound ho0) (fun k_ hk => ⟨hk.1, hk.2.2.1⟩))
  have HB := Aside0.mk hB
  clear hB ho0
  have HA := Aside0.mk (Below.alloc (Below.refl w.heap.size w) (Nat.le_refl _) (.cells #[.slice A0 l0.length c0, .int .i64 a1, .int .i64 a2, .int .i64 a3, .int .i64 a4, .int .i64 a5, .int .i64 a6] 34))
  have BK := Aside0.mk (heap_alloc_new w (.cells #[.slice A0 l0.length c0, .int .i64 a1, .int .i64 a2, .int .i64 a3, .int .i64 a4, .int .i64 a5, .int .i64 a6] 34))
  go_enter Try.func20, Try.ntmps20
  go_wp2_with fail
  replace O0 := Aside0.mk (Kd.S_below O0.out HA.out)
  replace HB := Aside0.mk (below_step HB.out HA.out)
  have HK := Aside0.mk (Kept.of_below HA.out (fun k_ => (P0 k_ ∧ k_ < w.heap.size)))
  refine (laws_markMemory.calls k (fun k_ => P0 k_ ∧ k_ < w.heap.size) _ l0 a0_ x0 z0 w0 _ HB.out O0.out hc0).mono ?_
  rintro e v0 ⟨rfl, hO0, hB, hK⟩
  replace BK := Aside0.mk (blk_kept BK.out hK (fun hs => (absurd hs.2 (Nat.lt_irrefl _))))
  replace O0 := Aside0.mk hO0
  replace HK := Aside0.mk (HK.out.then_ hK (fun k_ hk => .inl (hk)))
  replace HB := Aside0.mk hB
  clear hB hK hO0
  go_wp2
  go_ret
  exact ⟨rfl, Kd.S_mono O0.out (fun _ hk => hk.1), HB.out, HK.out.mono (fun k_ hk => hk.1)⟩
end Go.Proofs.Ytmkcbbbknbahgaa.P
namespace Go.Proofs.Ytmkcbbbknbahgaa.P
open Go.RowKit Go.Proofs.YtmkcbbbknbahgaaW.PrintWords Go.Proofs.YtmkcbbbknbahgaaW.PrintLast Go.Proofs.YtmkcbbbknbahgaaW.PrintMore
set_option linter.unusedVariables false

/-- A list with a stretch written anew. -/
def over_ {α : Type} (xs : List α) (lo : Nat) (ys : List α) : List α := xs.take lo ++ ys ++ xs.drop (lo + ys.length)

theorem over_length {α : Type} {xs ys : List α} {lo : Nat} (h : lo + ys.length ≤ xs.length) : (over_ xs lo ys).length = xs.length := by
  simp [over_]; omega

theorem over_nil {α : Type} (xs : List α) (lo : Nat) : over_ xs lo [] = xs := by simp [over_]

theorem over_get {α : Type} {xs ys : List α} {lo : Nat} (h : lo + ys.length ≤ xs.length) (j : Nat) : (over_ xs lo ys)[j]? = if lo ≤ j ∧ j < lo + ys.length then ys[j - lo]? else xs[j]? := by
  unfold over_
  by_cases h1 : j < lo
  · rw [if_neg (by omega), List.append_assoc, List.getElem?_append_left (by simp; omega), List.getElem?_take_of_lt h1]
  · by_cases h2 : j < lo + ys.length
    · rw [if_pos (by omega), List.append_assoc, List.getElem?_append_right (by simp; omega), List.getElem?_append_left (by simp; omega)]
      simp only [List.length_take]
      rw [show min lo xs.length = lo by omega]
    · rw [if_neg (by omega), List.getElem?_append_right (by simp; omega)]
      simp only [List.length_append, List.length_take, List.getElem?_drop]
      rw [show lo + ys.length + (j - (min lo xs.length + ys.length)) = j by omega]

theorem over_cons {α : Type} {xs ys : List α} {y : α} {lo : Nat} (h : lo + (ys.length + 1) ≤ xs.length) : over_ xs lo (y :: ys) = over_ (xs.set lo y) (lo + 1) ys := by
  apply List.ext_getElem?
  intro j
  rw [over_get (by simpa using h), over_get (by simp; omega)]
  by_cases h1 : j = lo
  · subst h1
    rw [if_pos (by simp), if_neg (by omega), List.getElem?_set_self (by omega)]
    simp
  · rw [List.getElem?_set_ne (by omega)]
    by_cases h2 : lo ≤ j ∧ j < lo + (y :: ys).length
    · rw [if_pos h2, if_pos (by simp at h2; omega)]
      obtain ⟨m, rfl⟩ : ∃ m, j = lo + 1 + m := ⟨j - (lo + 1), by omega⟩
      rw [show lo + 1 + m - lo = m + 1 by omega, show lo + 1 + m - (lo + 1) = m by omega]
      rfl
    · rw [if_neg h2, if_neg (by simp at h2; omega)]

theorem R_writes {e base g cap : Nat} {ok : Nat → Prop} : ∀ (ys : List Int) (lo : Nat) {W : World} {xs : List Int}, lo + ys.length ≤ xs.length → Kd.R (Kd.int .u8) e W base ok (.slice (some ⟨g, 0, none⟩) xs.length cap) xs →
    Kd.R (Kd.int .u8) e (W.setCells g lo (ys.map (Value.int .u8))) base ok (.slice (some ⟨g, 0, none⟩) xs.length cap) (over_ xs lo ys) ∧ W.grownBy (W.setCells g lo (ys.map (Value.int .u8))) (some g)
  | [], lo, W, xs, _, h => ⟨by rw [over_nil]; exact h, World.grownBy.refl _ _⟩
  | y :: ys, lo, W, xs, hl, h => by
    simp only [List.length_cons] at hl
    obtain ⟨h1, h2⟩ := Kd.R_put (enc := Value.int .u8) (h1 := fun _ => rfl) h (lo : Int) y
    rw [Int.toNat_natCast] at h1 h2
    have := R_writes ys (lo + 1) (W := W.setCell ⟨g, lo, none⟩ (.int .u8 y)) (xs := xs.set lo y) (by simp; omega) (by rw [List.length_set]; exact h1)
    rw [List.length_set] at this
    rw [over_cons hl]
    exact ⟨this.1, h2.trans this.2⟩

/-- The row of an own memory: where it lies, what its cells hold, and what the rows' slice is behind a stretch written anew. -/
theorem S_row {W : World} {base cap : Nat} {ok : Nat → Prop} {ad : Addr} {n : Nat} {m : List (List Int)} (h : Kd.S (Kd.slice 5 (Kd.int .u8)) 29 W base ok (.slice (some ad) n cap) m) (i : Nat) (hi : i < m.length) (hp : 0 < m[i].length) :
    ∃ g c, W.cell? (ad.add i) = some (.slice (some ⟨g, 0, none⟩) m[i].length c) ∧ m[i].length ≤ c ∧ ok g ∧ base ≤ g ∧ g < W.heap.size ∧ (∃ cells, W.heap[g]? = some (.cells cells 5 (0, 0))) ∧
      (∀ j (hj : j < m[i].length), W.cell? ⟨g, j, none⟩ = some (.int .u8 m[i][j]) ∧ W.frozen? ⟨g, j, none⟩ = false) ∧
      (∀ (lo : Nat) (ys : List Int), lo + ys.length ≤ m[i].length → Kd.S (Kd.slice 5 (Kd.int .u8)) 29 (W.setCells g lo (ys.map (Value.int .u8))) base ok (.slice (some ad) n cap) (m.set i (over_ m[i] lo ys)) ∧ W.grownBy (W.setCells g lo (ys.map (Value.int .u8))) (some g)) := by
  have hn : n = m.length := (Kd.S_reads' h).1
  obtain ⟨oki, c, hcl, hM, hcc, hoki, hbk⟩ := Kd.S_borrow h ([] : List Int) (i : Int) (by omega) (by omega)
  obtain ⟨v, rfl, hR⟩ := hM
  have e0 := hcc 0 _ rfl
  rw [show m.getD ((i : Int)).toNat [] = m[i] by rw [Int.toNat_natCast, List.getD_eq_getElem?_getD, List.getElem?_eq_getElem hi]; rfl] at hR
  rw [Int.toNat_natCast, Nat.add_zero, show (Kd.slice 5 (Kd.int .u8)).sz = 1 from rfl, Nat.mul_one] at e0
  have hR' : Kd.R (Kd.int .u8) 5 W base oki v m[i] := hR
  obtain ⟨g, c, rfl, hb, hlt, hcells⟩ := Kd.R_form hR' hp
  have hcap := (Kd.R_reads' hR').2.1
  refine ⟨g, c, e0, hcap, (hoki g (hR'.1 g rfl)).1, hb, hlt, hcells, fun j hj => ?_, fun lo ys hl => ?_⟩
  · have := Kd.R_cell (enc := Value.int .u8) (h1 := fun _ => rfl) (0 : Int) hR' (j : Int) (by omega) (by omega)
    rw [Int.toNat_natCast] at this
    have e1 : rdOf (0 : Int) m[i] (j : Int) = m[i][j] := by
      unfold rdOf
      rw [Int.toNat_natCast, List.getD_eq_getElem?_getD, List.getElem?_eq_getElem hj]; rfl
    rw [e1] at this
    exact this
  · obtain ⟨h1, h2⟩ := R_writes ys lo hl hR'
    have h3 : Kd.R (Kd.int .u8) 5 (W.setCells g lo (ys.map (Value.int .u8))) base oki (.slice (some ⟨g, 0, none⟩) (over_ m[i] lo ys).length c) (over_ m[i] lo ys) := by rw [over_length hl]; exact h1
    refine ⟨?_, h2⟩
    have := hbk (x' := over_ m[i] lo ys) h2 (fun k hk => by cases hk; exact hR'.1 g rfl) ⟨_, by rw [over_length hl], h3⟩
    rw [Int.toNat_natCast] at this
    exact this

theorem below_of_grown {w W W' : World} {b g : Nat} (hb : Below b w W) (h : W.grownBy W' (some g)) (hg : b ≤ g) (hl : b ≤ W.heap.size) : Below b w W' := hb.grown h hl (fun k hk => by cases hk; exact hg)
section
variable {P : Program}

theorem run_copy_bytes (w : World) (t t' e ty : TypeId) (ht : P.underlying t = some (.slice e)) (hinfo : (P.info? e).map (·.size) = some 1) (b o n c : Nat) (A : Option Addr) (m c' : Nat) (xs : List Int)
    (hC : Kd.C (Kd.int .u8) w A m xs) (hc : ∀ j, j < min m n → (w.cell? ⟨b, o + j, none⟩).isSome = true) (hf : ∀ j, j < min m n → w.frozen? ⟨b, o + j, none⟩ = false) :
    (Builtin.copy_ #[t, t'] ty #[.slice (some ⟨b, o, none⟩) n c, .slice A m c']).run P w = .ok (goInt ((min m n : Nat) : Int)) (w.setCells b o ((xs.take (min m n)).map (Value.int .u8))) := by
  have hR := Kd.reads_of_C (enc := Value.int .u8) (d := (0 : Int)) (h1 := fun _ => rfl) hC
  have hm : xs.length = m := hR.1
  rcases Nat.eq_zero_or_pos (min m n) with h0 | hp
  · rw [h0, List.take_zero, List.map_nil]
    exact run_copy_none w t t' ty e (some ⟨b, o, none⟩) A n c m c' ht hinfo h0
  · obtain ⟨ad, hA, hcell⟩ := hR.2.2 (by omega)
    subst hA
    have hlen : ((xs.take (min m n)).map (Value.int .u8)).length = min m n := by rw [List.length_map, List.length_take]; omega
    have key := run_copy_cells (P := P) w t t' ty e b o n c ad m c' ((xs.take (min m n)).map (Value.int .u8)) ht hinfo hlen (fun j u hu => ?_) (fun j hj => hc j (by omega)) (fun j hj => hf j (by omega)) (fun u hu => ?_)
    · rw [hlen] at key
      exact key
    · have hj : j < min m n := by
        have := (List.getElem?_eq_some_iff.1 hu).1
        simp at this
        omega
      rw [List.getElem?_map, List.getElem?_take_of_lt hj, List.getElem?_eq_getElem (by omega)] at hu
      rw [hcell j (by omega), ← Option.some.inj hu]
      simp [List.getD_eq_getElem?_getD, List.getElem?_eq_getElem (show j < xs.length by omega)]
    · simp only [List.mem_map] at hu
      obtain ⟨q, _, rfl⟩ := hu
      rfl

theorem copy_wp {ops : Array Oper} {Q : Exit → Act → World → Prop} {K : Act → World → Prop} {oi : Oper} {a : Act} {w : World} {s x : Operand} {t t' e : TypeId} (ho : oi.op = .call { callee := .builtin .copy, args := #[s, x], argTypes := #[t, t'] })
    (hw : Region.wanted oi (yielded ops a.tmps) = true) (ht : P.underlying t = some (.slice e)) (hinfo : (P.info? e).map (·.size) = some 1) (b o n c : Nat) (hs : a.eval s = .slice (some ⟨b, o, none⟩) n c) (A : Option Addr) (m c' : Nat) (hx : a.eval x = .slice A m c') (xs : List Int)
    (hC : Kd.C (Kd.int .u8) w A m xs) (hc : ∀ j, j < min m n → (w.cell? ⟨b, o + j, none⟩).isSome = true) (hf : ∀ j, j < min m n → w.frozen? ⟨b, o + j, none⟩ = false)
    (hK : K (a.put oi.dst (.int .i64 ((min m n : Nat) : Int))) (w.setCells b o ((xs.take (min m n)).map (Value.int .u8)))) :
    if Region.wanted oi (yielded ops a.tmps) = true then Oper.wp P oi a w K Q else K (a.put oi.dst undef) w := by
  rw [if_pos hw]
  unfold Oper.wp execOp
  have hr := run_copy_bytes w t t' e oi.type ht hinfo b o n c A m c' xs hC hc hf
  simp only [ho, resolve, invoke, builtin, Sem.run_bind, Sem.run_pure, Result.andThen_ok, List.map_toArray, List.map_cons, List.map_nil, hs, hx, hr]
  exact hK
end
end Go.Proofs.Ytmkcbbbknbahgaa.P
namespace Go.Proofs.Ytmkcbbbknbahgaa.P
open Go.RowKit Go.Proofs.YtmkcbbbknbahgaaW.PrintWords Go.Proofs.YtmkcbbbknbahgaaW.PrintLast Go.Proofs.YtmkcbbbknbahgaaW.PrintMore
set_option linter.unusedVariables false
set_option linter.unusedSimpArgs false

theorem cell_lt {W : World} {a : Addr} {v : Value} (h : W.cell? a = some v) : a.block < W.heap.size := by
  rcases Nat.lt_or_ge a.block W.heap.size with h' | h'
  · exact h'
  · simp [World.cell?, Array.getElem?_eq_none h'] at h

set_option maxHeartbeats 4000000 in
set_option maxRecDepth 100000 in
theorem impl_Memory_seen.at_ (ad : Addr) (n c : Nat) (a s l cp : Int) (g nn cc : Nat) (w : World) (hcell : w.cell? (ad.add a.toNat) = some (.slice (some ⟨g, 0, none⟩) nn cc)) (h0 : 0 ≤ a) (h1 : a < (n : Int)) (h2 : 0 ≤ s) (h3 : 0 ≤ l) (h4 : s + l ≤ (cc : Int)) (h5 : s + l ≤ 9223372036854775807) :
    Calls Try.prog 107 #[.agg #[.slice (some ad) n c], .agg #[.int .i64 a, .int .i64 s, .int .i64 l, .int .i64 cp]] w fun e w' => e = .returned (.slice (some ⟨g, if cc = s.toNat then 0 else s.toNat, none⟩) l.toNat (cc - s.toNat)) ∧ Below w.heap.size w w' := by
  have hu1 := Try.underlying31
  have hu2 := Try.underlying32
  have e1 : wrap64 (s + l) = s + l := by unfold wrap64; omega
  go_enter Try.func107, Try.ntmps107
  go_wp2_with fail
  have HA := Below.alloc (Below.alloc (Below.refl w.heap.size w) (Nat.le_refl _) (.cells #[.slice (some ad) n c] 31)) (by simp) (.cells #[.int .i64 a, .int .i64 s, .int .i64 l, .int .i64 cp] 32)
  have BK2 := heap_alloc_new (w.alloc (.cells #[.slice (some ad) n c] 31)) (.cells #[.int .i64 a, .int .i64 s, .int .i64 l, .int .i64 cp] 32)
  have BK1 := blk_below (heap_alloc_new w (.cells #[.slice (some ad) n c] 31)) (Below.alloc (Below.refl _ _) (Nat.le_refl _) (.cells #[.int .i64 a, .int .i64 s, .int .i64 l, .int .i64 cp] 32))
  have hlt : (ad.add a.toNat).block < w.heap.size := cell_lt hcell
  have hc2 := (World.cell?_of_block (a := ad.add a.toNat) (HA.block _ hlt)).trans hcell
  clear hcell
  rw [show (w.alloc (.cells #[.slice (some ad) n c] 31)).heap.size = w.heap.size + 1 by simp] at *
  generalize (w.alloc (.cells #[.slice (some ad) n c] 31)).alloc (.cells #[.int .i64 a, .int .i64 s, .int .i64 l, .int .i64 cp] 32) = w2 at *
  have z1 : w2.cell? ⟨w.heap.size, 0, none⟩ = some (.slice (some ad) n c) := (blk_cell BK1 0).trans rfl
  have z2 : w2.cell? ⟨w.heap.size + 1, 0, none⟩ = some (.int .i64 a) := (blk_cell BK2 0).trans rfl
  have z3 : w2.cell? ⟨w.heap.size + 1, 1, none⟩ = some (.int .i64 s) := (blk_cell BK2 1).trans rfl
  have z4 : w2.cell? ⟨w.heap.size + 1, 2, none⟩ = some (.int .i64 l) := (blk_cell BK2 2).trans rfl
  have d1 : decide (0 ≤ a) = true := decide_eq_true h0
  have d2 : decide (a < (n : Int)) = true := decide_eq_true h1
  have d3 : decide (0 ≤ s) = true := decide_eq_true h2
  have d4 : decide (s ≤ wrap64 (s + l)) = true := decide_eq_true (by omega)
  have d5 : decide (wrap64 (s + l) ≤ (cc : Int)) = true := decide_eq_true (by omega)
  have t0 := eq_true h0
  have t1 := eq_true h1
  have t3 := eq_true h2
  have t4 := eq_true (show s ≤ wrap64 (s + l) by omega)
  have t5 := eq_true (show wrap64 (s + l) ≤ (cc : Int) by omega)
  go_quiet (fail)
  go_wp2_with fail
  all_goals go_ret
  · have hcs := h
    refine ⟨?_, (by repeat (first | exact HA | apply below_alloc | apply pw_below_drewN | apply below_drew1))⟩
    first | (rw [show l.toNat = (s + l).toNat - s.toNat by omega]; rfl) | (rw [show cc - s.toNat = 0 by omega, show l.toNat = (s + l).toNat - s.toNat by omega]; rfl)
  · have hcs := h
    refine ⟨?_, (by repeat (first | exact HA | apply below_alloc | apply pw_below_drewN | apply below_drew1))⟩
    rw [show l.toNat = (s + l).toNat - s.toNat by omega]
    rfl
end Go.Proofs.Ytmkcbbbknbahgaa.P
namespace Go.Proofs.Ytmkcbbbknbahgaa.P
open Go.RowKit Go.Proofs.YtmkcbbbknbahgaaW.PrintWords Go.Proofs.YtmkcbbbknbahgaaW.PrintLast Go.Proofs.YtmkcbbbknbahgaaW.PrintMore
set_option linter.unusedVariables false
set_option linter.unusedSimpArgs false

theorem grown_set1 {w W : World} {g : Nat} (h : w.grownBy W (some g)) (j : Nat) (u : Value) : w.grownBy (W.setCell ⟨g, j, none⟩ u) (some g) :=
  ⟨h.os, h.tape, h.output, by have := h.size; simpa [World.setCell] using this, fun k hk hn => (Below.heap_setCell _ _ _ k (fun e => hn (congrArg some e))).trans (h.block k hk hn)⟩

theorem zc4 {w : World} {g : Nat} {t : TypeId} {a0 a1 a2 a3 : Value} (k : Aside0 (w.heap[g]? = some (.cells #[a0, a1, a2, a3] t (0, 0)))) : w.cell? ⟨g, 0, none⟩ = some a0 ∧ w.cell? ⟨g, 1, none⟩ = some a1 ∧ w.cell? ⟨g, 2, none⟩ = some a2 ∧ w.cell? ⟨g, 3, none⟩ = some a3 ∧ w.frozen? ⟨g, 0, none⟩ = false ∧ w.frozen? ⟨g, 1, none⟩ = false ∧ w.frozen? ⟨g, 2, none⟩ = false ∧ w.frozen? ⟨g, 3, none⟩ = false := ⟨(blk_cell k.out 0).trans rfl, (blk_cell k.out 1).trans rfl, (blk_cell k.out 2).trans rfl, (blk_cell k.out 3).trans rfl, blk_frozen k.out 0, blk_frozen k.out 1, blk_frozen k.out 2, blk_frozen k.out 3⟩

theorem puts4 {w : World} {g : Nat} {t : TypeId} {a0 a1 a2 a3 : Value} (h : w.heap[g]? = some (.cells #[a0, a1, a2, a3] t (0, 0))) (u0 u1 u2 u3 : Value) : (World.setCell (World.setCell (World.setCell (World.setCell w ⟨g, 0, none⟩ u0) ⟨g, 1, none⟩ u1) ⟨g, 2, none⟩ u2) ⟨g, 3, none⟩ u3).heap[g]? = some (.cells #[u0, u1, u2, u3] t (0, 0)) := blk_put (cs' := #[u0, u1, u2, u3]) (blk_put (cs' := #[u0, u1, u2, a3]) (blk_put (cs' := #[u0, u1, a2, a3]) (blk_put (cs' := #[u0, a1, a2, a3]) (h) 0 u0 rfl) 1 u1 rfl) 2 u2 rfl) 3 u3 rfl

theorem grows4 (w : World) (g : Nat) (u0 u1 u2 u3 : Value) : w.grownBy (World.setCell (World.setCell (World.setCell (World.setCell w ⟨g, 0, none⟩ u0) ⟨g, 1, none⟩ u1) ⟨g, 2, none⟩ u2) ⟨g, 3, none⟩ u3) (some g) := grown_set1 (grown_set1 (grown_set1 (grown_set1 (World.grownBy.refl _ _) 0 u0) 1 u1) 2 u2) 3 u3

theorem zc7 {w : World} {g : Nat} {t : TypeId} {a0 a1 a2 a3 a4 a5 a6 : Value} (k : Aside0 (w.heap[g]? = some (.cells #[a0, a1, a2, a3, a4, a5, a6] t (0, 0)))) : w.cell? ⟨g, 0, none⟩ = some a0 ∧ w.cell? ⟨g, 1, none⟩ = some a1 ∧ w.cell? ⟨g, 2, none⟩ = some a2 ∧ w.cell? ⟨g, 3, none⟩ = some a3 ∧ w.cell? ⟨g, 4, none⟩ = some a4 ∧ w.cell? ⟨g, 5, none⟩ = some a5 ∧ w.cell? ⟨g, 6, none⟩ = some a6 ∧ w.frozen? ⟨g, 0, none⟩ = false ∧ w.frozen? ⟨g, 1, none⟩ = false ∧ w.frozen? ⟨g, 2, none⟩ = false ∧ w.frozen? ⟨g, 3, none⟩ = false ∧ w.frozen? ⟨g, 4, none⟩ = false ∧ w.frozen? ⟨g, 5, none⟩ = false ∧ w.frozen? ⟨g, 6, none⟩ = false := ⟨(blk_cell k.out 0).trans rfl, (blk_cell k.out 1).trans rfl, (blk_cell k.out 2).trans rfl, (blk_cell k.out 3).trans rfl, (blk_cell k.out 4).trans rfl, (blk_cell k.out 5).trans rfl, (blk_cell k.out 6).trans rfl, blk_frozen k.out 0, blk_frozen k.out 1, blk_frozen k.out 2, blk_frozen k.out 3, blk_frozen k.out 4, blk_frozen k.out 5, blk_frozen k.out 6⟩

theorem puts7 {w : World} {g : Nat} {t : TypeId} {a0 a1 a2 a3 a4 a5 a6 : Value} (h : w.heap[g]? = some (.cells #[a0, a1, a2, a3, a4, a5, a6] t (0, 0))) (u0 u1 u2 u3 u4 u5 u6 : Value) : (World.setCell (World.setCell (World.setCell (World.setCell (World.setCell (World.setCell (World.setCell w ⟨g, 0, none⟩ u0) ⟨g, 1, none⟩ u1) ⟨g, 2, none⟩ u2) ⟨g, 3, none⟩ u3) ⟨g, 4, none⟩ u4) ⟨g, 5, none⟩ u5) ⟨g, 6, none⟩ u6).heap[g]? = some (.cells #[u0, u1, u2, u3, u4, u5, u6] t (0, 0)) := blk_put (cs' := #[u0, u1, u2, u3, u4, u5, u6]) (blk_put (cs' := #[u0, u1, u2, u3, u4, u5, a6]) (blk_put (cs' := #[u0, u1, u2, u3, u4, a5, a6]) (blk_put (cs' := #[u0, u1, u2, u3, a4, a5, a6]) (blk_put (cs' := #[u0, u1, u2, a3, a4, a5, a6]) (blk_put (cs' := #[u0, u1, a2, a3, a4, a5, a6]) (blk_put (cs' := #[u0, a1, a2, a3, a4, a5, a6]) (h) 0 u0 rfl) 1 u1 rfl) 2 u2 rfl) 3 u3 rfl) 4 u4 rfl) 5 u5 rfl) 6 u6 rfl

theorem grows7 (w : World) (g : Nat) (u0 u1 u2 u3 u4 u5 u6 : Value) : w.grownBy (World.setCell (World.setCell (World.setCell (World.setCell (World.setCell (World.setCell (World.setCell w ⟨g, 0, none⟩ u0) ⟨g, 1, none⟩ u1) ⟨g, 2, none⟩ u2) ⟨g, 3, none⟩ u3) ⟨g, 4, none⟩ u4) ⟨g, 5, none⟩ u5) ⟨g, 6, none⟩ u6) (some g) := grown_set1 (grown_set1 (grown_set1 (grown_set1 (grown_set1 (grown_set1 (grown_set1 (World.grownBy.refl _ _) 0 u0) 1 u1) 2 u2) 3 u3) 4 u4) 5 u5) 6 u6

/-- A store of a whole block in a plain region: the world behind it by a letter. -/
theorem stB_ {P : Program} {ops : Array Oper} {rest : List Oper} {o : Oper} {a : Act} {Q : Exit → Act → World → Prop} {W w1 : World} (hgd : o.guard = none) (hN : o.dst = none) {g T : Nat} {cs : Array Value}
    (hrun : (execOp a.eval o).run P W = .ok .skip w1) (hb : w1.heap[g]? = some (.cells cs T (0, 0))) (hg : W.grownBy w1 (some g)) (h : ∀ w', w'.heap[g]? = some (.cells cs T (0, 0)) → W.grownBy w' (some g) → wpList P ops Q rest a w') : wpList P ops Q (o :: rest) a W := by
  refine wpList_plain hgd fun K hK => ?_
  unfold Oper.wp
  rw [hrun]
  show K (a.put o.dst undef) w1
  rw [hN]
  exact hK _ _ (h _ hb hg)

/-- The same, as one step of a drawn region. -/
theorem stD_ {P : Program} {ops : Array Oper} {o : Oper} {a : Act} {Q : Exit → Act → World → Prop} {K : Act → World → Prop} {W w1 : World} (hw : Region.wanted o (yielded ops a.tmps) = true) (hN : o.dst = none) {g T : Nat} {cs : Array Value}
    (hrun : (execOp a.eval o).run P W = .ok .skip w1) (hb : w1.heap[g]? = some (.cells cs T (0, 0))) (hg : W.grownBy w1 (some g)) (h : ∀ w', w'.heap[g]? = some (.cells cs T (0, 0)) → W.grownBy w' (some g) → K a w') : if Region.wanted o (yielded ops a.tmps) = true then Oper.wp P o a W K Q else K (a.put none undef) W :=
  skip_ hw hN hrun (h _ hb hg)

theorem blk_neq_ {w : World} {g g' t t' : Nat} {c c' : Array Value} (h : w.heap[g]? = some (.cells c t (0, 0))) (h' : w.heap[g']? = some (.cells c' t' (0, 0))) (hd : (t == t') = false) (e : g = g') : False := by
  subst e
  rw [h] at h'
  injection h' with h'
  injection h' with _ h'
  subst h'
  simp at hd

/-- Blocks of other types than the memory's rows, but for one, are as they were. -/
def Keep (w w' : World) (g : Nat) : Prop := ∀ k c t, w.heap[k]? = some (.cells c t (0, 0)) → k ≠ g → t ≠ 29 → t ≠ 5 → w'.heap[k]? = some (.cells c t (0, 0))

theorem Keep.trans {w w' w'' : World} {g : Nat} (h : Keep w w' g) (h' : Keep w' w'' g) : Keep w w'' g := fun k c t h1 h2 h3 h4 => h' k c t (h k c t h1 h2 h3 h4) h2 h3 h4

theorem Keep.below {w w' : World} {g : Nat} (h : Below w.heap.size w w') : Keep w w' g := fun k c t h1 _ _ _ => blk_below h1 h

theorem Keep.row {w w' : World} {g gr t : Nat} {cs : Array Value} (hg : w.grownBy w' (some gr)) (hb : w.heap[gr]? = some (.cells cs t (0, 0))) (ht : t = 29 ∨ t = 5) : Keep w w' g := fun k c t' h1 _ h3 h4 => blk_grown h1 hg (fun e => by
  have e' := Option.some.inj e
  subst e'
  rw [hb] at h1
  injection h1 with h1
  injection h1 with _ h1
  subst h1
  rcases ht with ht | ht
  · exact h3 ht
  · exact h4 ht)

theorem Keep.own {w w' : World} {g : Nat} (hg : w.grownBy w' (some g)) : Keep w w' g := fun k c t' h1 h2 _ _ => blk_grown h1 hg (fun e => h2 (Option.some.inj e))

theorem wrap_add {x y : Nat} (h : x + y ≤ 4611686018427387904) : wrap64 ((x : Int) + (y : Int)) = ((x + y : Nat) : Int) := by
  unfold wrap64
  omega

theorem Keep.new {w w' w'' : World} {g b : Nat} (h : Keep w w' g) (hg : w'.grownBy w'' (some b)) (hb : w.heap.size ≤ b) : Keep w w'' g := fun k c t h1 h2 h3 h4 => blk_grown (h k c t h1 h2 h3 h4) hg (fun e => by have := Option.some.inj e; have := blk_lt h1; omega)

theorem ne_types {w : World} {g g' t t' : Nat} {c c' : Array Value} (h : w.heap[g]? = some (.cells c t (0, 0))) (h' : w.heap[g']? = some (.cells c' t' (0, 0))) (hd : t ≠ t') : g ≠ g' := fun e => by
  subst e
  rw [h] at h'
  injection h' with h'
  injection h' with _ h'
  exact hd h'
end Go.Proofs.Ytmkcbbbknbahgaa.P
namespace Go.Proofs.Ytmkcbbbknbahgaa.P
open Go.RowKit Go.Proofs.YtmkcbbbknbahgaaW.PrintWords Go.Proofs.YtmkcbbbknbahgaaW.PrintLast Go.Proofs.YtmkcbbbknbahgaaW.PrintMore
attribute [local go_sem] max_two min_two
set_option linter.unusedVariables false
set_option linter.unusedSimpArgs false

theorem add_mk_ (g o j : Nat) : (⟨g, o, none⟩ : Addr).add j = ⟨g, o + j, none⟩ := by
  unfold Addr.add
  split <;> simp_all
section
variable {P : Program}

/-- copy in a plain region. -/
theorem copyL_ {ops : Array Oper} {Q : Exit → Act → World → Prop} {rest : List Oper} {oi : Oper} {a : Act} {w : World} {s x : Operand} {t t' e : TypeId} (hg : oi.guard = none) (ho : oi.op = .call { callee := .builtin .copy, args := #[s, x], argTypes := #[t, t'] })
    (ht : P.underlying t = some (.slice e)) (hinfo : (P.info? e).map (·.size) = some 1) (b o n c : Nat) (hs : a.eval s = .slice (some ⟨b, o, none⟩) n c) (A : Option Addr) (m c' : Nat) (hx : a.eval x = .slice A m c') (xs : List Int)
    (hC : Kd.C (Kd.int .u8) w A m xs) (hc : ∀ j, j < min m n → (w.cell? ⟨b, o + j, none⟩).isSome = true) (hf : ∀ j, j < min m n → w.frozen? ⟨b, o + j, none⟩ = false)
    (hK : wpList P ops Q rest (a.put oi.dst (.int .i64 ((min m n : Nat) : Int))) (w.setCells b o ((xs.take (min m n)).map (Value.int .u8)))) : wpList P ops Q (oi :: rest) a w := by
  refine wpList_plain hg fun K hK' => ?_
  unfold Oper.wp execOp
  have hr := run_copy_bytes w t t' e oi.type ht hinfo b o n c A m c' xs hC hc hf
  simp only [ho, resolve, invoke, builtin, Sem.run_bind, Sem.run_pure, Result.andThen_ok, List.map_toArray, List.map_cons, List.map_nil, hs, hx, hr]
  exact hK' _ _ hK
end

set_option maxHeartbeats 8000000 in
set_option maxRecDepth 100000 in
theorem appended_no (g off : Nat) (cs : Array Value) (T : TypeId) (A : Option Addr) (mn mc : Nat) (a s n c : Int) (A1 : Option Addr) (c1 : Nat) (l : List Int) (w : World) (hb : w.heap[g]? = some (.cells cs T (0, 0))) (ho : cs[off]? = some (.slice A mn mc))
    (h1 : ¬ wrap64 (n + (l.length : Int)) ≤ c) (h2 : wrap64 (n + (l.length : Int)) > 64 ∨ mn = 16) :
    Calls Try.prog 189 #[.pointer (some ⟨g, off, none⟩), .agg #[.int .i64 a, .int .i64 s, .int .i64 n, .int .i64 c], .slice A1 l.length c1] w fun e w' => e = .returned (.tuple #[.agg #[.int .i64 0, .int .i64 0, .int .i64 0, .int .i64 0], .bool false]) ∧ Below w.heap.size w w' := by
  have hu1 := Try.underlying32
  have hu2 := Try.underlying31
  have hgl := blk_lt hb
  have HA1 := Below.alloc (Below.refl w.heap.size w) (Nat.le_refl _) (.cells #[.int .i64 a, .int .i64 s, .int .i64 n, .int .i64 c] 32)
  have HA2 := Below.alloc (Below.refl (w.alloc (.cells #[.int .i64 a, .int .i64 s, .int .i64 n, .int .i64 c] 32)).heap.size (w.alloc (.cells #[.int .i64 a, .int .i64 s, .int .i64 n, .int .i64 c] 32))) (Nat.le_refl _) (.cells #[.int .i64 0, .int .i64 0, .int .i64 0, .int .i64 0] 32)
  have HB := Aside0.mk (below_step HA1 HA2)
  have BKg := Aside0.mk (blk_below hb HB.out)
  have BK3 := Aside0.mk (blk_below (heap_alloc_new w (.cells #[.int .i64 a, .int .i64 s, .int .i64 n, .int .i64 c] 32)) HA2)
  have BK4 := Aside0.mk (heap_alloc_new (w.alloc (.cells #[.int .i64 a, .int .i64 s, .int .i64 n, .int .i64 c] 32)) (.cells #[.int .i64 0, .int .i64 0, .int .i64 0, .int .i64 0] 32))
  have Z1 := Aside0.mk (show w.heap.size + 2 ≤ ((w.alloc (.cells #[.int .i64 a, .int .i64 s, .int .i64 n, .int .i64 c] 32)).alloc (.cells #[.int .i64 0, .int .i64 0, .int .i64 0, .int .i64 0] 32)).heap.size by simp)
  have HG := Aside0.mk hgl
  rw [show (w.alloc (.cells #[.int .i64 a, .int .i64 s, .int .i64 n, .int .i64 c] 32)).heap.size = w.heap.size + 1 by simp] at *
  clear HA1 HA2 hb
  go_enter Try.func189, Try.ntmps189
  go_wp2_with fail
  clear hgl
  refine start_ (n := 12) (S := fun w' => w'.cell? ⟨w.heap.size, 1, none⟩ = some (.int .i64 s) ∧ w'.cell? ⟨w.heap.size, 2, none⟩ = some (.int .i64 n)) (ds := []) #[false, false, false, false, false, false, false, false, false, false, false, false] (by kernel_rfl) rfl rfl ⟨(blk_cell BK3.out 1).trans rfl, (blk_cell BK3.out 2).trans rfl⟩ (fun hHeld => ?_)
  replace BKg := Aside0.mk (blk_drew BKg.out)
  replace BK3 := Aside0.mk (blk_drew BK3.out)
  replace BK4 := Aside0.mk (blk_drew BK4.out)
  replace HB := Aside0.mk (below_drew1 HB.out)
  replace Z1 := Aside0.mk (show w.heap.size + 2 ≤ ((w.alloc (.cells #[.int .i64 a, .int .i64 s, .int .i64 n, .int .i64 c] 32)).alloc (.cells #[.int .i64 0, .int .i64 0, .int .i64 0, .int .i64 0] 32)).drew.heap.size from Z1.out)
  generalize ((w.alloc (.cells #[.int .i64 a, .int .i64 s, .int .i64 n, .int .i64 c] 32)).alloc (.cells #[.int .i64 0, .int .i64 0, .int .i64 0, .int .i64 0] 32)).drew = w4 at BKg BK3 BK4 HB Z1 hHeld ⊢
  refine pure_ (i := 0) (N := some 11) (v := ?_) (a' := ?_) #[true, false, false, false, false, false, false, false, false, false, false, false] rfl rfl (by kernel_rfl) (fun _ _ _ h => h) (Or.inl ⟨by rfl, ?_⟩) ?_ ?_
  rotate_left
  · intro w'
    go_simp
    with_reducible rfl
  rotate_left
  · simp only [Act.put, List.setIfInBounds_toArray, List.set_cons_zero, List.set_cons_succ, i64_w, i32_w]
    rfl
  refine take_ (i := 1) (N := some 12) (v := ?_) (a' := ?_) #[true, true, false, false, false, false, false, false, false, false, false, false] rfl rfl (by kernel_rfl) (fun _ _ _ h => h) (Or.inl ⟨by rfl, ?_⟩) hHeld ?_ ?_
  rotate_left
  · rintro w' ⟨s0, s1⟩
    go_simp
    with_reducible rfl
  rotate_left
  · simp only [Act.put, List.setIfInBounds_toArray, List.set_cons_zero, List.set_cons_succ, i64_w, i32_w]
    rfl
  refine pure_ (i := 2) (N := some 13) (v := ?_) (a' := ?_) #[true, true, true, false, false, false, false, false, false, false, false, false] rfl rfl (by kernel_rfl) (fun _ _ _ h => h) (Or.inl ⟨by rfl, ?_⟩) ?_ ?_
  rotate_left
  · intro w'
    go_simp
    with_reducible rfl
  rotate_left
  · simp only [Act.put, List.setIfInBounds_toArray, List.set_cons_zero, List.set_cons_succ, i64_w, i32_w]
    rfl
  refine take_ (i := 3) (N := some 14) (v := ?_) (a' := ?_) #[true, true, true, true, false, false, false, false, false, false, false, false] rfl rfl (by kernel_rfl) (fun _ _ _ h => h) (Or.inl ⟨by rfl, ?_⟩) hHeld ?_ ?_
  rotate_left
  · rintro w' ⟨s0, s1⟩
    go_simp
    with_reducible rfl
  rotate_left
  · simp only [Act.put, List.setIfInBounds_toArray, List.set_cons_zero, List.set_cons_succ, i64_w, i32_w]
    rfl
  refine pure_ (i := 4) (N := some 15) (v := ?_) (a' := ?_) #[true, true, true, true, true, false, false, false, false, false, false, false] rfl rfl (by kernel_rfl) (fun _ _ _ h => h) (Or.inl ⟨by rfl, ?_⟩) ?_ ?_
  rotate_left
  · intro w'
    go_simp
    with_reducible rfl
  rotate_left
  · simp only [Act.put, List.setIfInBounds_toArray, List.set_cons_zero, List.set_cons_succ, i64_w, i32_w]
    rfl
  refine pure_ (i := 5) (N := some 16) (v := ?_) (a' := ?_) #[true, true, true, true, true, true, false, false, false, false, false, false] rfl rfl (by kernel_rfl) (fun _ _ _ h => h) (Or.inl ⟨by rfl, ?_⟩) ?_ ?_
  rotate_left
  · intro w'
    go_simp
    with_reducible rfl
  rotate_left
  · simp only [Act.put, List.setIfInBounds_toArray, List.set_cons_zero, List.set_cons_succ, i64_w, i32_w]
    rfl
  refine take_ (i := 6) (N := some 17) (v := ?_) (a' := ?_) #[true, true, true, true, true, true, true, false, false, false, false, false] rfl rfl (by kernel_rfl) (fun _ _ _ h => h) (Or.inl ⟨by rfl, ?_⟩) hHeld ?_ ?_
  rotate_left
  · rintro w' ⟨s0, s1⟩
    go_simp
    with_reducible rfl
  rotate_left
  · simp only [Act.put, List.setIfInBounds_toArray, List.set_cons_zero, List.set_cons_succ, i64_w, i32_w]
    rfl
  refine pure_ (i := 7) (N := some 18) (v := ?_) (a' := ?_) #[true, true, true, true, true, true, true, true, false, false, false, false] rfl rfl (by kernel_rfl) (fun _ _ _ h => h) (Or.inl ⟨by rfl, ?_⟩) ?_ ?_
  rotate_left
  · intro w'
    go_simp
    with_reducible rfl
  rotate_left
  · simp only [Act.put, List.setIfInBounds_toArray, List.set_cons_zero, List.set_cons_succ, i64_w, i32_w]
    rfl
  refine pure_ (i := 8) (N := some 19) (v := ?_) (a' := ?_) #[true, true, true, true, true, true, true, true, true, false, false, false] rfl rfl (by kernel_rfl) (fun _ _ _ h => h) (Or.inl ⟨by rfl, ?_⟩) ?_ ?_
  rotate_left
  · intro w'
    go_simp
    with_reducible rfl
  rotate_left
  · simp only [Act.put, List.setIfInBounds_toArray, List.set_cons_zero, List.set_cons_succ, i64_w, i32_w]
    rfl
  refine pure_ (i := 9) (N := some 20) (v := ?_) (a' := ?_) #[true, true, true, true, true, true, true, true, true, true, false, false] rfl rfl (by kernel_rfl) (fun _ _ _ h => h) (Or.inl ⟨by rfl, ?_⟩) ?_ ?_
  rotate_left
  · intro w'
    go_simp
    with_reducible rfl
  rotate_left
  · simp only [Act.put, List.setIfInBounds_toArray, List.set_cons_zero, List.set_cons_succ, i64_w, i32_w]
    rfl
  refine pure_ (i := 10) (N := some 8) (v := ?_) (a' := ?_) #[true, true, true, true, true, true, true, true, true, true, true, false] rfl rfl (by kernel_rfl) (fun _ _ _ h => h) (Or.inl ⟨by rfl, ?_⟩) ?_ ?_
  rotate_left
  · intro w'
    go_simp
    with_reducible rfl
  rotate_left
  · simp only [Act.put, List.setIfInBounds_toArray, List.set_cons_zero, List.set_cons_succ, i64_w, i32_w]
    rfl
  refine pure_ (i := 11) (N := some 9) (v := ?_) (a' := ?_) #[true, true, true, true, true, true, true, true, true, true, true, true] rfl rfl (by kernel_rfl) (fun _ _ _ h => h) (Or.inl ⟨by rfl, ?_⟩) ?_ ?_
  rotate_left
  · intro w'
    go_simp
    with_reducible rfl
  rotate_left
  · simp only [Act.put, List.setIfInBounds_toArray, List.set_cons_zero, List.set_cons_succ, i64_w, i32_w]
    rfl
  refine done_ (by kernel_rfl) ?_
  clear hHeld
  have y3 : w4.cell? ⟨w.heap.size, 3, none⟩ = some (.int .i64 c) := (blk_cell BK3.out 3).trans rfl
  have y2 : w4.cell? ⟨w.heap.size, 2, none⟩ = some (.int .i64 n) := (blk_cell BK3.out 2).trans rfl
  have hd : decide (wrap64 (n + (l.length : Int)) ≤ c) = false := decide_eq_false (by omega)
  have yg : w4.cell? ⟨g, off, none⟩ = some (.slice A mn mc) := (blk_cell BKg.out off).trans ho
  have z0 : w4.cell? ⟨w.heap.size + 1, 0, none⟩ = some (.int .i64 0) := (blk_cell BK4.out 0).trans rfl
  have z1 : w4.cell? ⟨w.heap.size + 1, 1, none⟩ = some (.int .i64 0) := (blk_cell BK4.out 1).trans rfl
  have z2 : w4.cell? ⟨w.heap.size + 1, 2, none⟩ = some (.int .i64 0) := (blk_cell BK4.out 2).trans rfl
  have z3 : w4.cell? ⟨w.heap.size + 1, 3, none⟩ = some (.int .i64 0) := (blk_cell BK4.out 3).trans rfl
  have zf0 := blk_frozen BK4.out 0
  have zf1 := blk_frozen BK4.out 1
  have zf2 := blk_frozen BK4.out 2
  have zf3 := blk_frozen BK4.out 3
  have zl := blk_lt BK4.out
  by_cases h3 : wrap64 (n + (l.length : Int)) > 64
  · have hd2 : decide (wrap64 (n + (l.length : Int)) > 64) = true := decide_eq_true h3
    go_wp2_with fail
    refine bodyPost_ret (results_ct rfl _ _ (w.heap.size + 1) 32 #[.int .i64 0, .int .i64 0, .int .i64 0, .int .i64 0] (0, 0) _ rfl (by (with_reducible repeat (first | refine blk_drewN ?_ _ | refine blk_drew ?_ | refine blk_alloc ?_ _)); refine blk_put (cs := #[(.int .i64 0), (.int .i64 0), (.int .i64 0), (.int .i64 0)]) ?_ 3 _ rfl; (with_reducible repeat (first | refine blk_drewN ?_ _ | refine blk_drew ?_ | refine blk_alloc ?_ _)); refine blk_put (cs := #[(.int .i64 0), (.int .i64 0), (.int .i64 0), (.int .i64 0)]) ?_ 2 _ rfl; (with_reducible repeat (first | refine blk_drewN ?_ _ | refine blk_drew ?_ | refine blk_alloc ?_ _)); refine blk_put (cs := #[(.int .i64 0), (.int .i64 0), (.int .i64 0), (.int .i64 0)]) ?_ 1 _ rfl; (with_reducible repeat (first | refine blk_drewN ?_ _ | refine blk_drew ?_ | refine blk_alloc ?_ _)); refine blk_put (cs := #[(.int .i64 0), (.int .i64 0), (.int .i64 0), (.int .i64 0)]) ?_ 0 _ rfl; (with_reducible repeat (first | refine blk_drewN ?_ _ | refine blk_drew ?_ | refine blk_alloc ?_ _)); exact BK4.out) Try.underlying32 rfl (by kernel_rfl)) rfl ?_
    exact ⟨rfl, by repeat (first | (with_reducible first | exact HB.out | refine below_set ?_ (Nat.le_succ _) | apply below_alloc | apply pw_below_drewN | apply below_drew1) | exact HB.out)⟩
  · have hd2 : decide (wrap64 (n + (l.length : Int)) > 64) = false := decide_eq_false h3
    obtain rfl : mn = 16 := h2.resolve_left h3
    go_wp2_with fail
    refine bodyPost_ret (results_ct rfl _ _ (w.heap.size + 1) 32 #[.int .i64 0, .int .i64 0, .int .i64 0, .int .i64 0] (0, 0) _ rfl (by (with_reducible repeat (first | refine blk_drewN ?_ _ | refine blk_drew ?_ | refine blk_alloc ?_ _)); refine blk_put (cs := #[(.int .i64 0), (.int .i64 0), (.int .i64 0), (.int .i64 0)]) ?_ 3 _ rfl; (with_reducible repeat (first | refine blk_drewN ?_ _ | refine blk_drew ?_ | refine blk_alloc ?_ _)); refine blk_put (cs := #[(.int .i64 0), (.int .i64 0), (.int .i64 0), (.int .i64 0)]) ?_ 2 _ rfl; (with_reducible repeat (first | refine blk_drewN ?_ _ | refine blk_drew ?_ | refine blk_alloc ?_ _)); refine blk_put (cs := #[(.int .i64 0), (.int .i64 0), (.int .i64 0), (.int .i64 0)]) ?_ 1 _ rfl; (with_reducible repeat (first | refine blk_drewN ?_ _ | refine blk_drew ?_ | refine blk_alloc ?_ _)); refine blk_put (cs := #[(.int .i64 0), (.int .i64 0), (.int .i64 0), (.int .i64 0)]) ?_ 0 _ rfl; (with_reducible repeat (first | refine blk_drewN ?_ _ | refine blk_drew ?_ | refine blk_alloc ?_ _)); exact BK4.out) Try.underlying32 rfl (by kernel_rfl)) rfl ?_
    exact ⟨rfl, by repeat (first | (with_reducible first | exact HB.out | refine below_set ?_ (Nat.le_succ _) | apply below_alloc | apply pw_below_drewN | apply below_drew1) | exact HB.out)⟩

set_option maxHeartbeats 8000000 in
set_option maxRecDepth 100000 in
theorem appended_room (g off : Nat) (cs : Array Value) (T : TypeId) (ad : Addr) (mc : Nat) (m : List (List Int)) (ix : Nat) (s n c : Int) (A1 : Option Addr) (c1 : Nat) (l : List Int) (base : Nat) (ok : Nat → Prop) (w : World) (hb : w.heap[g]? = some (.cells cs T (0, 0))) (ho : cs[off]? = some (.slice (some ad) m.length mc))
    (hS : Kd.S (Kd.slice 5 (Kd.int .u8)) 29 w base ok (.slice (some ad) m.length mc) m) (hC : Kd.C (Kd.int .u8) w A1 l.length l) (h1 : n + (l.length : Int) ≤ c) (h2 : 0 ≤ s) (h3 : 0 ≤ n) (hix : ix < m.length) (h4 : s + c ≤ (m[ix].length : Int)) (h5 : m[ix].length ≤ 4611686018427387904) (h6 : 0 < m[ix].length) (hm : m.length ≤ 4611686018427387904) (hT : T ≠ 5) :
    Calls Try.prog 189 #[.pointer (some ⟨g, off, none⟩), .agg #[.int .i64 (ix : Int), .int .i64 s, .int .i64 n, .int .i64 c], .slice A1 l.length c1] w fun e w' => e = .returned (.tuple #[.agg #[.int .i64 (ix : Int), .int .i64 s, .int .i64 (n + (l.length : Int)), .int .i64 c], .bool true]) ∧ w'.heap[g]? = some (.cells cs T (0, 0)) ∧ Kd.S (Kd.slice 5 (Kd.int .u8)) 29 w' base ok (.slice (some ad) m.length mc) (m.set ix (over_ m[ix] (s + n).toNat l)) ∧
      ∃ gr, (∃ cells, w.heap[gr]? = some (.cells cells 5 (0, 0))) ∧ base ≤ gr ∧ ok gr ∧ w.grownBy w' (some gr) := by
  have hu1 := Try.underlying32
  have hu2 := Try.underlying31
  have hgl := blk_lt hb
  have HA1 := Below.alloc (Below.refl w.heap.size w) (Nat.le_refl _) (.cells #[.int .i64 (ix : Int), .int .i64 s, .int .i64 n, .int .i64 c] 32)
  have HA2 := Below.alloc (Below.refl (w.alloc (.cells #[.int .i64 (ix : Int), .int .i64 s, .int .i64 n, .int .i64 c] 32)).heap.size (w.alloc (.cells #[.int .i64 (ix : Int), .int .i64 s, .int .i64 n, .int .i64 c] 32))) (Nat.le_refl _) (.cells #[.int .i64 0, .int .i64 0, .int .i64 0, .int .i64 0] 32)
  have HB := Aside0.mk (below_step HA1 HA2)
  have BKg := Aside0.mk (blk_below hb HB.out)
  have BK3 := Aside0.mk (blk_below (heap_alloc_new w (.cells #[.int .i64 (ix : Int), .int .i64 s, .int .i64 n, .int .i64 c] 32)) HA2)
  have BK4 := Aside0.mk (heap_alloc_new (w.alloc (.cells #[.int .i64 (ix : Int), .int .i64 s, .int .i64 n, .int .i64 c] 32)) (.cells #[.int .i64 0, .int .i64 0, .int .i64 0, .int .i64 0] 32))
  have Z1 := Aside0.mk (show w.heap.size + 2 ≤ ((w.alloc (.cells #[.int .i64 (ix : Int), .int .i64 s, .int .i64 n, .int .i64 c] 32)).alloc (.cells #[.int .i64 0, .int .i64 0, .int .i64 0, .int .i64 0] 32)).heap.size by simp)
  have HG := Aside0.mk hgl
  rw [show (w.alloc (.cells #[.int .i64 (ix : Int), .int .i64 s, .int .i64 n, .int .i64 c] 32)).heap.size = w.heap.size + 1 by simp] at *
  clear HA1 HA2 hb
  go_enter Try.func189, Try.ntmps189
  go_wp2_with fail
  clear hgl
  refine start_ (n := 12) (S := fun w' => w'.cell? ⟨w.heap.size, 1, none⟩ = some (.int .i64 s) ∧ w'.cell? ⟨w.heap.size, 2, none⟩ = some (.int .i64 n)) (ds := []) #[false, false, false, false, false, false, false, false, false, false, false, false] (by kernel_rfl) rfl rfl ⟨(blk_cell BK3.out 1).trans rfl, (blk_cell BK3.out 2).trans rfl⟩ (fun hHeld => ?_)
  replace BKg := Aside0.mk (blk_drew BKg.out)
  replace BK3 := Aside0.mk (blk_drew BK3.out)
  replace BK4 := Aside0.mk (blk_drew BK4.out)
  replace HB := Aside0.mk (below_drew1 HB.out)
  replace Z1 := Aside0.mk (show w.heap.size + 2 ≤ ((w.alloc (.cells #[.int .i64 (ix : Int), .int .i64 s, .int .i64 n, .int .i64 c] 32)).alloc (.cells #[.int .i64 0, .int .i64 0, .int .i64 0, .int .i64 0] 32)).drew.heap.size from Z1.out)
  generalize ((w.alloc (.cells #[.int .i64 (ix : Int), .int .i64 s, .int .i64 n, .int .i64 c] 32)).alloc (.cells #[.int .i64 0, .int .i64 0, .int .i64 0, .int .i64 0] 32)).drew = w4 at BKg BK3 BK4 HB Z1 hHeld ⊢
  refine pure_ (i := 0) (N := some 11) (v := ?_) (a' := ?_) #[true, false, false, false, false, false, false, false, false, false, false, false] rfl rfl (by kernel_rfl) (fun _ _ _ h => h) (Or.inl ⟨by rfl, ?_⟩) ?_ ?_
  rotate_left
  · intro w'
    go_simp
    with_reducible rfl
  rotate_left
  · simp only [Act.put, List.setIfInBounds_toArray, List.set_cons_zero, List.set_cons_succ, i64_w, i32_w]
    rfl
  refine take_ (i := 1) (N := some 12) (v := ?_) (a' := ?_) #[true, true, false, false, false, false, false, false, false, false, false, false] rfl rfl (by kernel_rfl) (fun _ _ _ h => h) (Or.inl ⟨by rfl, ?_⟩) hHeld ?_ ?_
  rotate_left
  · rintro w' ⟨s0, s1⟩
    go_simp
    with_reducible rfl
  rotate_left
  · simp only [Act.put, List.setIfInBounds_toArray, List.set_cons_zero, List.set_cons_succ, i64_w, i32_w]
    rfl
  refine pure_ (i := 2) (N := some 13) (v := ?_) (a' := ?_) #[true, true, true, false, false, false, false, false, false, false, false, false] rfl rfl (by kernel_rfl) (fun _ _ _ h => h) (Or.inl ⟨by rfl, ?_⟩) ?_ ?_
  rotate_left
  · intro w'
    go_simp
    with_reducible rfl
  rotate_left
  · simp only [Act.put, List.setIfInBounds_toArray, List.set_cons_zero, List.set_cons_succ, i64_w, i32_w]
    rfl
  refine take_ (i := 3) (N := some 14) (v := ?_) (a' := ?_) #[true, true, true, true, false, false, false, false, false, false, false, false] rfl rfl (by kernel_rfl) (fun _ _ _ h => h) (Or.inl ⟨by rfl, ?_⟩) hHeld ?_ ?_
  rotate_left
  · rintro w' ⟨s0, s1⟩
    go_simp
    with_reducible rfl
  rotate_left
  · simp only [Act.put, List.setIfInBounds_toArray, List.set_cons_zero, List.set_cons_succ, i64_w, i32_w]
    rfl
  refine pure_ (i := 4) (N := some 15) (v := ?_) (a' := ?_) #[true, true, true, true, true, false, false, false, false, false, false, false] rfl rfl (by kernel_rfl) (fun _ _ _ h => h) (Or.inl ⟨by rfl, ?_⟩) ?_ ?_
  rotate_left
  · intro w'
    go_simp
    with_reducible rfl
  rotate_left
  · simp only [Act.put, List.setIfInBounds_toArray, List.set_cons_zero, List.set_cons_succ, i64_w, i32_w]
    rfl
  refine pure_ (i := 5) (N := some 16) (v := ?_) (a' := ?_) #[true, true, true, true, true, true, false, false, false, false, false, false] rfl rfl (by kernel_rfl) (fun _ _ _ h => h) (Or.inl ⟨by rfl, ?_⟩) ?_ ?_
  rotate_left
  · intro w'
    go_simp
    with_reducible rfl
  rotate_left
  · simp only [Act.put, List.setIfInBounds_toArray, List.set_cons_zero, List.set_cons_succ, i64_w, i32_w]
    rfl
  refine take_ (i := 6) (N := some 17) (v := ?_) (a' := ?_) #[true, true, true, true, true, true, true, false, false, false, false, false] rfl rfl (by kernel_rfl) (fun _ _ _ h => h) (Or.inl ⟨by rfl, ?_⟩) hHeld ?_ ?_
  rotate_left
  · rintro w' ⟨s0, s1⟩
    go_simp
    with_reducible rfl
  rotate_left
  · simp only [Act.put, List.setIfInBounds_toArray, List.set_cons_zero, List.set_cons_succ, i64_w, i32_w]
    rfl
  refine pure_ (i := 7) (N := some 18) (v := ?_) (a' := ?_) #[true, true, true, true, true, true, true, true, false, false, false, false] rfl rfl (by kernel_rfl) (fun _ _ _ h => h) (Or.inl ⟨by rfl, ?_⟩) ?_ ?_
  rotate_left
  · intro w'
    go_simp
    with_reducible rfl
  rotate_left
  · simp only [Act.put, List.setIfInBounds_toArray, List.set_cons_zero, List.set_cons_succ, i64_w, i32_w]
    rfl
  refine pure_ (i := 8) (N := some 19) (v := ?_) (a' := ?_) #[true, true, true, true, true, true, true, true, true, false, false, false] rfl rfl (by kernel_rfl) (fun _ _ _ h => h) (Or.inl ⟨by rfl, ?_⟩) ?_ ?_
  rotate_left
  · intro w'
    go_simp
    with_reducible rfl
  rotate_left
  · simp only [Act.put, List.setIfInBounds_toArray, List.set_cons_zero, List.set_cons_succ, i64_w, i32_w]
    rfl
  refine pure_ (i := 9) (N := some 20) (v := ?_) (a' := ?_) #[true, true, true, true, true, true, true, true, true, true, false, false] rfl rfl (by kernel_rfl) (fun _ _ _ h => h) (Or.inl ⟨by rfl, ?_⟩) ?_ ?_
  rotate_left
  · intro w'
    go_simp
    with_reducible rfl
  rotate_left
  · simp only [Act.put, List.setIfInBounds_toArray, List.set_cons_zero, List.set_cons_succ, i64_w, i32_w]
    rfl
  refine pure_ (i := 10) (N := some 8) (v := ?_) (a' := ?_) #[true, true, true, true, true, true, true, true, true, true, true, false] rfl rfl (by kernel_rfl) (fun _ _ _ h => h) (Or.inl ⟨by rfl, ?_⟩) ?_ ?_
  rotate_left
  · intro w'
    go_simp
    with_reducible rfl
  rotate_left
  · simp only [Act.put, List.setIfInBounds_toArray, List.set_cons_zero, List.set_cons_succ, i64_w, i32_w]
    rfl
  refine pure_ (i := 11) (N := some 9) (v := ?_) (a' := ?_) #[true, true, true, true, true, true, true, true, true, true, true, true] rfl rfl (by kernel_rfl) (fun _ _ _ h => h) (Or.inl ⟨by rfl, ?_⟩) ?_ ?_
  rotate_left
  · intro w'
    go_simp
    with_reducible rfl
  rotate_left
  · simp only [Act.put, List.setIfInBounds_toArray, List.set_cons_zero, List.set_cons_succ, i64_w, i32_w]
    rfl
  refine done_ (by kernel_rfl) ?_
  clear hHeld
  have y3 : w4.cell? ⟨w.heap.size, 3, none⟩ = some (.int .i64 c) := (blk_cell BK3.out 3).trans rfl
  have y2 : w4.cell? ⟨w.heap.size, 2, none⟩ = some (.int .i64 n) := (blk_cell BK3.out 2).trans rfl
  have e1 : wrap64 (n + (l.length : Int)) = n + (l.length : Int) := by unfold wrap64; omega
  have e2 : wrap64 (s + n) = s + n := by unfold wrap64; omega
  have hd : decide (wrap64 (n + (l.length : Int)) ≤ c) = true := decide_eq_true (by omega)
  obtain ⟨gr0, _, hc0, _, _, _, _, ⟨cells0, hblk0⟩, _, _⟩ := S_row hS ix hix h6
  replace hc0 := (World.cell?_of_block (HB.out.block _ (cell_lt hc0))).trans hc0
  replace hblk0 := Aside0.mk hblk0
  replace hS := Aside0.mk (Kd.S_below hS HB.out)
  replace hC := Aside0.mk (Kd.C_below hC HB.out)
  obtain ⟨gr, cr, hcell, hcc, hok, hbg, hlt, ⟨cells, hblk⟩, hcells, hwr⟩ := S_row hS.out ix hix h6
  obtain ⟨eg0, -, -⟩ := Value.slice.inj (Option.some.inj (hc0.symm.trans hcell))
  have eg0' : gr0 = gr := congrArg Addr.block (Option.some.inj eg0)
  subst eg0'
  clear hc0 eg0
  obtain ⟨off', eoff, hoff⟩ : ∃ o : Nat, (if cr = (s + n).toNat then some (⟨gr0, 0, none⟩ : Addr) else some ⟨gr0, (s + n).toNat, none⟩) = some ⟨gr0, o, none⟩ ∧ (0 < l.length → o = (s + n).toNat) := by
    by_cases x1 : cr = (s + n).toNat
    · exact ⟨_, by rw [if_pos x1], fun h => by omega⟩
    · exact ⟨_, by rw [if_neg x1], fun h => rfl⟩
  have d1 : decide (0 ≤ (ix : Int)) = true := decide_eq_true (by omega)
  have d2 : decide ((ix : Int) < (m.length : Int)) = true := decide_eq_true (by omega)
  have d3 : decide (0 ≤ s + n) = true := decide_eq_true (by omega)
  have d4 : decide (s + n ≤ (m[ix].length : Int)) = true := decide_eq_true (by omega)
  have d5 : decide ((m[ix].length : Int) ≤ (cr : Int)) = true := decide_eq_true (by omega)
  have t1 := eq_true (show 0 ≤ (ix : Int) by omega)
  have t2 := eq_true (show (ix : Int) < (m.length : Int) by omega)
  have t3 := eq_true (show 0 ≤ s + n by omega)
  have t4 := eq_true (show s + n ≤ (m[ix].length : Int) by omega)
  have t5 := eq_true (show (m[ix].length : Int) ≤ (cr : Int) by omega)
  go_wp2_with fail
  clear y2 y3
  refine start_ (n := 12) (S := fun w' => w'.cell? ⟨w.heap.size, 0, none⟩ = some (.int .i64 (ix : Int)) ∧ w'.cell? ⟨g, off, none⟩ = some (.slice (some ad) m.length mc) ∧ w'.cell? (ad.add ix) = some (.slice (some ⟨gr0, 0, none⟩) m[ix].length cr)) (ds := [11]) #[false, false, false, false, false, false, false, false, false, false, false, false] (by kernel_rfl) rfl rfl ⟨(blk_cell BK3.out 0).trans rfl, (blk_cell BKg.out off).trans ho, hcell⟩ (fun hHeld => ?_)
  replace BKg := Aside0.mk (blk_drew BKg.out)
  replace BK3 := Aside0.mk (blk_drew BK3.out)
  replace BK4 := Aside0.mk (blk_drew BK4.out)
  replace HB := Aside0.mk (below_drew1 HB.out)
  replace hS := Aside0.mk (Kd.S_drew hS.out)
  replace hC := Aside0.mk (Kd.C_drew hC.out)
  replace Z1 := Aside0.mk (show w.heap.size + 2 ≤ w4.drew.heap.size from Z1.out)
  replace hblk : w4.drew.heap[gr0]? = _ := hblk
  replace hcells : ∀ j (hj : j < m[ix].length), w4.drew.cell? ⟨gr0, j, none⟩ = some (.int .u8 m[ix][j]) ∧ w4.drew.frozen? ⟨gr0, j, none⟩ = false := hcells
  clear hwr hcell
  generalize w4.drew = w5 at BKg BK3 BK4 HB hS hC Z1 hblk hcells hHeld ⊢
  refine pure_ (i := 0) (N := some 25) (v := ?_) (a' := ?_) #[true, false, false, false, false, false, false, false, false, false, false, false] rfl rfl (by kernel_rfl) (fun _ _ _ h => h) (Or.inl ⟨by rfl, ?_⟩) ?_ ?_
  rotate_left
  · intro w'
    go_simp
    with_reducible rfl
  rotate_left
  · simp only [Act.put, List.setIfInBounds_toArray, List.set_cons_zero, List.set_cons_succ, i64_w, i32_w]
    rfl
  refine pure_ (i := 1) (N := some 26) (v := ?_) (a' := ?_) #[true, true, false, false, false, false, false, false, false, false, false, false] rfl rfl (by kernel_rfl) (fun _ _ _ h => h) (Or.inl ⟨by rfl, ?_⟩) ?_ ?_
  rotate_left
  · intro w'
    go_simp
    with_reducible rfl
  rotate_left
  · simp only [Act.put, List.setIfInBounds_toArray, List.set_cons_zero, List.set_cons_succ, i64_w, i32_w]
    rfl
  refine pure_ (i := 2) (N := some 27) (v := ?_) (a' := ?_) #[true, true, true, false, false, false, false, false, false, false, false, false] rfl rfl (by kernel_rfl) (fun _ _ _ h => h) (Or.inl ⟨by rfl, ?_⟩) ?_ ?_
  rotate_left
  · intro w'
    go_simp
    with_reducible rfl
  rotate_left
  · simp only [Act.put, List.setIfInBounds_toArray, List.set_cons_zero, List.set_cons_succ, i64_w, i32_w]
    rfl
  refine take_ (i := 3) (N := some 28) (v := ?_) (a' := ?_) #[true, true, true, true, false, false, false, false, false, false, false, false] rfl rfl (by kernel_rfl) (fun _ _ _ h => h) (Or.inl ⟨by rfl, ?_⟩) hHeld ?_ ?_
  rotate_left
  · rintro w' ⟨s0, s1, s2⟩
    go_simp
    with_reducible rfl
  rotate_left
  · simp only [Act.put, List.setIfInBounds_toArray, List.set_cons_zero, List.set_cons_succ, i64_w, i32_w]
    rfl
  refine pure_ (i := 4) (N := some 29) (v := ?_) (a' := ?_) #[true, true, true, true, true, false, false, false, false, false, false, false] rfl rfl (by kernel_rfl) (fun _ _ _ h => h) (Or.inl ⟨by rfl, ?_⟩) ?_ ?_
  rotate_left
  · intro w'
    go_simp
    with_reducible rfl
  rotate_left
  · simp only [Act.put, List.setIfInBounds_toArray, List.set_cons_zero, List.set_cons_succ, i64_w, i32_w]
    rfl
  refine take_ (i := 5) (N := some 30) (v := ?_) (a' := ?_) #[true, true, true, true, true, true, false, false, false, false, false, false] rfl rfl (by kernel_rfl) (fun _ _ _ h => h) (Or.inl ⟨by rfl, ?_⟩) hHeld ?_ ?_
  rotate_left
  · rintro w' ⟨s0, s1, s2⟩
    go_simp
    with_reducible rfl
  rotate_left
  · simp only [Act.put, List.setIfInBounds_toArray, List.set_cons_zero, List.set_cons_succ, i64_w, i32_w]
    rfl
  refine pure_ (i := 6) (N := some 31) (v := ?_) (a' := ?_) #[true, true, true, true, true, true, true, false, false, false, false, false] rfl rfl (by kernel_rfl) (fun _ _ _ h => h) (Or.inl ⟨by rfl, ?_⟩) ?_ ?_
  rotate_left
  · intro w'
    go_simp
    with_reducible rfl
  rotate_left
  · simp only [Act.put, List.setIfInBounds_toArray, List.set_cons_zero, List.set_cons_succ, i64_w, i32_w]
    rfl
  refine take_ (i := 7) (N := some 32) (v := ?_) (a' := ?_) #[true, true, true, true, true, true, true, true, false, false, false, false] rfl rfl (by kernel_rfl) (fun _ _ _ h => h) (Or.inl ⟨by rfl, ?_⟩) hHeld ?_ ?_
  rotate_left
  · rintro w' ⟨s0, s1, s2⟩
    go_simp
    with_reducible rfl
  rotate_left
  · simp only [Act.put, List.setIfInBounds_toArray, List.set_cons_zero, List.set_cons_succ, i64_w, i32_w]
    rfl
  refine pure_ (i := 8) (N := some 33) (v := ?_) (a' := ?_) #[true, true, true, true, true, true, true, true, true, false, false, false] rfl rfl (by kernel_rfl) (fun _ _ _ h => h) (Or.inl ⟨by rfl, ?_⟩) ?_ ?_
  rotate_left
  · intro w'
    go_simp
    with_reducible rfl
  rotate_left
  · simp only [Act.put, List.setIfInBounds_toArray, List.set_cons_zero, List.set_cons_succ, i64_w, i32_w]
    rfl
  refine pure_ (i := 9) (N := some 34) (v := .slice (some ⟨gr0, off', none⟩) (m[ix].length - (s + n).toNat) (cr - (s + n).toNat)) (a' := ?_) #[true, true, true, true, true, true, true, true, true, true, false, false] rfl rfl (by kernel_rfl) (fun _ _ _ h => h) (Or.inl ⟨by rfl, ?_⟩) ?_ ?_
  · intro w'
    go_simp
  rotate_left
  · simp only [Act.put, List.setIfInBounds_toArray, List.set_cons_zero, List.set_cons_succ, i64_w, i32_w]
    rfl
  refine pure_ (i := 10) (N := some 35) (v := ?_) (a' := ?_) #[true, true, true, true, true, true, true, true, true, true, true, false] rfl rfl (by kernel_rfl) (fun _ _ _ h => h) (Or.inl ⟨by rfl, ?_⟩) ?_ ?_
  rotate_left
  · intro w'
    go_simp
    with_reducible rfl
  rotate_left
  · simp only [Act.put, List.setIfInBounds_toArray, List.set_cons_zero, List.set_cons_succ, i64_w, i32_w]
    rfl
  obtain ⟨gr', cr', hcell', _, hok', hbg', hl', ⟨cells', hblk'⟩, hcells', hwr⟩ := S_row hS.out ix hix h6
  obtain ⟨eg, -, -⟩ := Value.slice.inj (Option.some.inj (hcell'.symm.trans hHeld.2.2))
  have eg' : gr' = gr0 := congrArg Addr.block (Option.some.inj eg)
  subst eg'
  have hmin : min l.length (m[ix].length - (s + n).toNat) = l.length := by omega
  refine last_ (i := 11) (N := some 36) #[true, true, true, true, true, true, true, true, true, true, true, true] rfl rfl (by kernel_rfl) (by decide) (fun K hK => ?_)
  refine copy_wp (s := .tmp 34) (x := .tmp 35) (t := 29) (t' := 29) (e := 5) rfl (by rfl) Try.underlying29 (by kernel_rfl) gr' off' (m[ix].length - (s + n).toNat) (cr - (s + n).toNat) (by rfl) A1 l.length c1 (by rfl) l hC.out (fun j hj => ?_) (fun j hj => ?_) ?_
  · have hof := hoff (by omega)
    rw [(hcells (off' + j) (by omega)).1]
    rfl
  · have hof := hoff (by omega)
    exact (hcells (off' + j) (by omega)).2
  rw [hmin, List.take_length]
  obtain ⟨hS2, hg⟩ : Kd.S (Kd.slice 5 (Kd.int .u8)) 29 (w5.setCells gr' off' (l.map (Value.int .u8))) base ok (.slice (some ad) m.length mc) (m.set ix (over_ m[ix] (s + n).toNat l)) ∧ w5.grownBy (w5.setCells gr' off' (l.map (Value.int .u8))) (some gr') := by
    by_cases hl0 : 0 < l.length
    · have hof := hoff hl0
      rw [← hof]
      exact hwr off' l (by omega)
    · obtain rfl : l = [] := List.eq_nil_of_length_eq_zero (by omega)
      rw [List.map_nil, over_nil, List.set_getElem_self]
      exact ⟨hS.out, World.grownBy.refl _ _⟩
  refine hK.out _ _ ?_
  clear hK K hwr hcells hcells' hcell' hC hS hHeld
  refine done_ (by kernel_rfl) ?_
  generalize w5.setCells gr' off' (l.map (Value.int .u8)) = w6 at hS2 hg ⊢
  have hfar : ∀ {b : Nat} {cs : Array Value} {T : TypeId}, T ≠ 5 → w5.heap[b]? = some (.cells cs T (0, 0)) → w6.heap[b]? = some (.cells cs T (0, 0)) := fun {b} {cs} {T} hT_ hb_ => (hg.block b (blk_lt hb_) (fun e => by
    obtain rfl := Option.some.inj e
    rw [hblk] at hb_
    injection hb_ with hb_
    injection hb_ with _ hb_
    exact hT_ hb_.symm)).trans hb_
  replace BKg := Aside0.mk (hfar hT BKg.out)
  replace BK3 := Aside0.mk (hfar (by decide) BK3.out)
  replace BK4 := Aside0.mk (hfar (by decide) BK4.out)
  have HGr := Aside0.mk (World.grownBy.trans (show w.grownBy w5 (some gr') from ⟨HB.out.os, HB.out.tape, HB.out.output, below_size HB.out, fun k hk _ => HB.out.block k hk⟩) hg)
  have Z2 := Aside0.mk (show w.heap.size + 2 ≤ w6.heap.size from Nat.le_trans Z1.out hg.size)
  replace hS2 := Aside0.mk hS2
  have y0 : w6.cell? ⟨w.heap.size, 0, none⟩ = some (.int .i64 (ix : Int)) := (blk_cell BK3.out 0).trans rfl
  have y1 : w6.cell? ⟨w.heap.size, 1, none⟩ = some (.int .i64 s) := (blk_cell BK3.out 1).trans rfl
  have y2 : w6.cell? ⟨w.heap.size, 2, none⟩ = some (.int .i64 n) := (blk_cell BK3.out 2).trans rfl
  have y3 : w6.cell? ⟨w.heap.size, 3, none⟩ = some (.int .i64 c) := (blk_cell BK3.out 3).trans rfl
  have yl := blk_lt BK3.out
  have z0 : w6.cell? ⟨w.heap.size + 1, 0, none⟩ = some (.int .i64 0) := (blk_cell BK4.out 0).trans rfl
  have z1 : w6.cell? ⟨w.heap.size + 1, 1, none⟩ = some (.int .i64 0) := (blk_cell BK4.out 1).trans rfl
  have z2 : w6.cell? ⟨w.heap.size + 1, 2, none⟩ = some (.int .i64 0) := (blk_cell BK4.out 2).trans rfl
  have z3 : w6.cell? ⟨w.heap.size + 1, 3, none⟩ = some (.int .i64 0) := (blk_cell BK4.out 3).trans rfl
  have zf0 := blk_frozen BK4.out 0
  have zf1 := blk_frozen BK4.out 1
  have zf2 := blk_frozen BK4.out 2
  have zf3 := blk_frozen BK4.out 3
  have zl := blk_lt BK4.out
  clear HB hg hfar hblk hblk' Z1
  go_wp2_with fail
  refine bodyPost_ret (results_ct rfl _ _ (w.heap.size + 1) 32 #[(.int .i64 (ix : Int)), (.int .i64 s), (.int .i64 (n + (l.length : Int))), (.int .i64 c)] (0, 0) _ rfl (by (with_reducible repeat (first | refine blk_drewN ?_ _ | refine blk_drew ?_ | refine blk_alloc ?_ _)); refine blk_put (cs := #[(.int .i64 (ix : Int)), (.int .i64 s), (.int .i64 (n + (l.length : Int))), (.int .i64 0)]) ?_ 3 _ rfl; (with_reducible repeat (first | refine blk_drewN ?_ _ | refine blk_drew ?_ | refine blk_alloc ?_ _)); refine blk_put (cs := #[(.int .i64 (ix : Int)), (.int .i64 s), (.int .i64 0), (.int .i64 0)]) ?_ 2 _ rfl; (with_reducible repeat (first | refine blk_drewN ?_ _ | refine blk_drew ?_ | refine blk_alloc ?_ _)); refine blk_put (cs := #[(.int .i64 (ix : Int)), (.int .i64 0), (.int .i64 0), (.int .i64 0)]) ?_ 1 _ rfl; (with_reducible repeat (first | refine blk_drewN ?_ _ | refine blk_drew ?_ | refine blk_alloc ?_ _)); refine blk_put (cs := #[(.int .i64 0), (.int .i64 0), (.int .i64 0), (.int .i64 0)]) ?_ 0 _ rfl; (with_reducible repeat (first | refine blk_drewN ?_ _ | refine blk_drew ?_ | refine blk_alloc ?_ _)); exact BK4.out) Try.underlying32 rfl (by kernel_rfl)) rfl ?_
  have hne := Nat.ne_of_lt (Nat.lt_succ_of_lt HG.out)
  have hst : ∀ (W : World) (j : Nat) (u : Value), w.grownBy W (some gr') → w.grownBy (W.setCell ⟨w.heap.size + 1, j, none⟩ u) (some gr') := fun W j u hW => ⟨hW.os, hW.tape, hW.output, by have := hW.size; simpa [World.setCell] using this, fun k hk hn => (Below.heap_setCell _ _ _ k (by show k ≠ w.heap.size + 1; omega)).trans (hW.block k hk hn)⟩
  have HS3 := Aside0.mk (Kd.S_types hS2.out BK4.out (by decide))
  exact ⟨rfl, blk_far (p := ⟨w.heap.size + 1, 3, none⟩) (blk_far (p := ⟨w.heap.size + 1, 2, none⟩) (blk_far (p := ⟨w.heap.size + 1, 1, none⟩) (blk_far (p := ⟨w.heap.size + 1, 0, none⟩) BKg.out hne _) hne _) hne _) hne _, Kd.S_mono (ok := fun k_ => ok k_ ∧ k_ ≠ w.heap.size + 1) (by refine Kd.S_far (p := ⟨w.heap.size + 1, 3, none⟩) ?_ (fun k_ hk_ => hk_.2) _; refine Kd.S_far (p := ⟨w.heap.size + 1, 2, none⟩) ?_ (fun k_ hk_ => hk_.2) _; refine Kd.S_far (p := ⟨w.heap.size + 1, 1, none⟩) ?_ (fun k_ hk_ => hk_.2) _; refine Kd.S_far (p := ⟨w.heap.size + 1, 0, none⟩) ?_ (fun k_ hk_ => hk_.2) _; exact HS3.out) (fun _ h_ => h_.1), gr', ⟨cells0, hblk0.out⟩, hbg', hok', hst _ _ _ (hst _ _ _ (hst _ _ _ (hst _ _ _ HGr.out)))⟩

set_option maxHeartbeats 8000000 in
set_option maxRecDepth 100000 in
theorem appended_new (g off : Nat) (cs : Array Value) (T : TypeId) (A : Option Addr) (mc : Nat) (m : List (List Int)) (ix : Nat) (s n c : Int) (A1 : Option Addr) (c1 : Nat) (l : List Int) (base : Nat) (ok : Nat → Prop) (w : World) (hb : w.heap[g]? = some (.cells cs T (0, 0))) (ho : cs[off]? = some (.slice A m.length mc))
    (hS : Kd.S (Kd.slice 5 (Kd.int .u8)) 29 w base ok (.slice A m.length mc) m) (hC : Kd.C (Kd.int .u8) w A1 l.length l) (h1 : ¬ n + (l.length : Int) ≤ c) (h7 : n + (l.length : Int) ≤ 64) (h8 : m.length < 16) (h2 : 0 ≤ s) (h3 : 0 ≤ n) (h9 : n ≤ c) (hix : ix < m.length) (h4 : s + c ≤ (m[ix].length : Int)) (h5 : m[ix].length ≤ 64) (h6 : 0 < m[ix].length) (hT : T ≠ 5) (hT2 : T ≠ 29) (hbase : base ≤ w.heap.size) (hbG : base ≤ g) (hok : ∀ k, w.heap.size ≤ k → ok k) :
    Calls Try.prog 189 #[.pointer (some ⟨g, off, none⟩), .agg #[.int .i64 (ix : Int), .int .i64 s, .int .i64 n, .int .i64 c], .slice A1 l.length c1] w fun e w' => e = .returned (.tuple #[.agg #[.int .i64 (m.length : Int), .int .i64 0, .int .i64 (n + (l.length : Int)), .int .i64 (mn 64 (mx (2 * c) (n + (l.length : Int))))], .bool true]) ∧ ∃ A' c', w'.heap[g]? = some (.cells (cs.setIfInBounds off (.slice A' (m.length + 1) c')) T (0, 0)) ∧ Kd.S (Kd.slice 5 (Kd.int .u8)) 29 w' base ok (.slice A' (m.length + 1) c') (m ++ [over_ (over_ (List.replicate (mn 64 (mx (2 * c) (n + (l.length : Int)))).toNat 0) 0 ((m[ix].drop s.toNat).take n.toNat)) n.toNat l]) ∧ Below base w w' ∧ Keep w w' g := by
  have hu1 := Try.underlying32
  have hu2 := Try.underlying31
  have hgl := blk_lt hb
  have HA1 := Below.alloc (Below.refl w.heap.size w) (Nat.le_refl _) (.cells #[.int .i64 (ix : Int), .int .i64 s, .int .i64 n, .int .i64 c] 32)
  have HA2 := Below.alloc (Below.refl (w.alloc (.cells #[.int .i64 (ix : Int), .int .i64 s, .int .i64 n, .int .i64 c] 32)).heap.size (w.alloc (.cells #[.int .i64 (ix : Int), .int .i64 s, .int .i64 n, .int .i64 c] 32))) (Nat.le_refl _) (.cells #[.int .i64 0, .int .i64 0, .int .i64 0, .int .i64 0] 32)
  have HB := Aside0.mk (below_step HA1 HA2)
  have BKg := Aside0.mk (blk_below hb HB.out)
  have BK3 := Aside0.mk (blk_below (heap_alloc_new w (.cells #[.int .i64 (ix : Int), .int .i64 s, .int .i64 n, .int .i64 c] 32)) HA2)
  have BK4 := Aside0.mk (heap_alloc_new (w.alloc (.cells #[.int .i64 (ix : Int), .int .i64 s, .int .i64 n, .int .i64 c] 32)) (.cells #[.int .i64 0, .int .i64 0, .int .i64 0, .int .i64 0] 32))
  have Z1 := Aside0.mk (show w.heap.size + 2 ≤ ((w.alloc (.cells #[.int .i64 (ix : Int), .int .i64 s, .int .i64 n, .int .i64 c] 32)).alloc (.cells #[.int .i64 0, .int .i64 0, .int .i64 0, .int .i64 0] 32)).heap.size by simp)
  have HG := Aside0.mk hgl
  rw [show (w.alloc (.cells #[.int .i64 (ix : Int), .int .i64 s, .int .i64 n, .int .i64 c] 32)).heap.size = w.heap.size + 1 by simp] at *
  clear HA1 HA2 hb
  go_enter Try.func189, Try.ntmps189
  go_wp2_with fail
  clear hgl
  refine start_ (n := 12) (S := fun w' => w'.cell? ⟨w.heap.size, 1, none⟩ = some (.int .i64 s) ∧ w'.cell? ⟨w.heap.size, 2, none⟩ = some (.int .i64 n)) (ds := []) #[false, false, false, false, false, false, false, false, false, false, false, false] (by kernel_rfl) rfl rfl ⟨(blk_cell BK3.out 1).trans rfl, (blk_cell BK3.out 2).trans rfl⟩ (fun hHeld => ?_)
  replace BKg := Aside0.mk (blk_drew BKg.out)
  replace BK3 := Aside0.mk (blk_drew BK3.out)
  replace BK4 := Aside0.mk (blk_drew BK4.out)
  replace HB := Aside0.mk (below_drew1 HB.out)
  replace Z1 := Aside0.mk (show w.heap.size + 2 ≤ ((w.alloc (.cells #[.int .i64 (ix : Int), .int .i64 s, .int .i64 n, .int .i64 c] 32)).alloc (.cells #[.int .i64 0, .int .i64 0, .int .i64 0, .int .i64 0] 32)).drew.heap.size from Z1.out)
  generalize ((w.alloc (.cells #[.int .i64 (ix : Int), .int .i64 s, .int .i64 n, .int .i64 c] 32)).alloc (.cells #[.int .i64 0, .int .i64 0, .int .i64 0, .int .i64 0] 32)).drew = w4 at BKg BK3 BK4 HB Z1 hHeld ⊢
  refine pure_ (i := 0) (N := some 11) (v := ?_) (a' := ?_) #[true, false, false, false, false, false, false, false, false, false, false, false] rfl rfl (by kernel_rfl) (fun _ _ _ h => h) (Or.inl ⟨by rfl, ?_⟩) ?_ ?_
  rotate_left
  · intro w'
    go_simp
    with_reducible rfl
  rotate_left
  · simp only [Act.put, List.setIfInBounds_toArray, List.set_cons_zero, List.set_cons_succ, i64_w, i32_w]
    rfl
  refine take_ (i := 1) (N := some 12) (v := ?_) (a' := ?_) #[true, true, false, false, false, false, false, false, false, false, false, false] rfl rfl (by kernel_rfl) (fun _ _ _ h => h) (Or.inl ⟨by rfl, ?_⟩) hHeld ?_ ?_
  rotate_left
  · rintro w' ⟨s0, s1⟩
    go_simp
    with_reducible rfl
  rotate_left
  · simp only [Act.put, List.setIfInBounds_toArray, List.set_cons_zero, List.set_cons_succ, i64_w, i32_w]
    rfl
  refine pure_ (i := 2) (N := some 13) (v := ?_) (a' := ?_) #[true, true, true, false, false, false, false, false, false, false, false, false] rfl rfl (by kernel_rfl) (fun _ _ _ h => h) (Or.inl ⟨by rfl, ?_⟩) ?_ ?_
  rotate_left
  · intro w'
    go_simp
    with_reducible rfl
  rotate_left
  · simp only [Act.put, List.setIfInBounds_toArray, List.set_cons_zero, List.set_cons_succ, i64_w, i32_w]
    rfl
  refine take_ (i := 3) (N := some 14) (v := ?_) (a' := ?_) #[true, true, true, true, false, false, false, false, false, false, false, false] rfl rfl (by kernel_rfl) (fun _ _ _ h => h) (Or.inl ⟨by rfl, ?_⟩) hHeld ?_ ?_
  rotate_left
  · rintro w' ⟨s0, s1⟩
    go_simp
    with_reducible rfl
  rotate_left
  · simp only [Act.put, List.setIfInBounds_toArray, List.set_cons_zero, List.set_cons_succ, i64_w, i32_w]
    rfl
  refine pure_ (i := 4) (N := some 15) (v := ?_) (a' := ?_) #[true, true, true, true, true, false, false, false, false, false, false, false] rfl rfl (by kernel_rfl) (fun _ _ _ h => h) (Or.inl ⟨by rfl, ?_⟩) ?_ ?_
  rotate_left
  · intro w'
    go_simp
    with_reducible rfl
  rotate_left
  · simp only [Act.put, List.setIfInBounds_toArray, List.set_cons_zero, List.set_cons_succ, i64_w, i32_w]
    rfl
  refine pure_ (i := 5) (N := some 16) (v := ?_) (a' := ?_) #[true, true, true, true, true, true, false, false, false, false, false, false] rfl rfl (by kernel_rfl) (fun _ _ _ h => h) (Or.inl ⟨by rfl, ?_⟩) ?_ ?_
  rotate_left
  · intro w'
    go_simp
    with_reducible rfl
  rotate_left
  · simp only [Act.put, List.setIfInBounds_toArray, List.set_cons_zero, List.set_cons_succ, i64_w, i32_w]
    rfl
  refine take_ (i := 6) (N := some 17) (v := ?_) (a' := ?_) #[true, true, true, true, true, true, true, false, false, false, false, false] rfl rfl (by kernel_rfl) (fun _ _ _ h => h) (Or.inl ⟨by rfl, ?_⟩) hHeld ?_ ?_
  rotate_left
  · rintro w' ⟨s0, s1⟩
    go_simp
    with_reducible rfl
  rotate_left
  · simp only [Act.put, List.setIfInBounds_toArray, List.set_cons_zero, List.set_cons_succ, i64_w, i32_w]
    rfl
  refine pure_ (i := 7) (N := some 18) (v := ?_) (a' := ?_) #[true, true, true, true, true, true, true, true, false, false, false, false] rfl rfl (by kernel_rfl) (fun _ _ _ h => h) (Or.inl ⟨by rfl, ?_⟩) ?_ ?_
  rotate_left
  · intro w'
    go_simp
    with_reducible rfl
  rotate_left
  · simp only [Act.put, List.setIfInBounds_toArray, List.set_cons_zero, List.set_cons_succ, i64_w, i32_w]
    rfl
  refine pure_ (i := 8) (N := some 19) (v := ?_) (a' := ?_) #[true, true, true, true, true, true, true, true, true, false, false, false] rfl rfl (by kernel_rfl) (fun _ _ _ h => h) (Or.inl ⟨by rfl, ?_⟩) ?_ ?_
  rotate_left
  · intro w'
    go_simp
    with_reducible rfl
  rotate_left
  · simp only [Act.put, List.setIfInBounds_toArray, List.set_cons_zero, List.set_cons_succ, i64_w, i32_w]
    rfl
  refine pure_ (i := 9) (N := some 20) (v := ?_) (a' := ?_) #[true, true, true, true, true, true, true, true, true, true, false, false] rfl rfl (by kernel_rfl) (fun _ _ _ h => h) (Or.inl ⟨by rfl, ?_⟩) ?_ ?_
  rotate_left
  · intro w'
    go_simp
    with_reducible rfl
  rotate_left
  · simp only [Act.put, List.setIfInBounds_toArray, List.set_cons_zero, List.set_cons_succ, i64_w, i32_w]
    rfl
  refine pure_ (i := 10) (N := some 8) (v := ?_) (a' := ?_) #[true, true, true, true, true, true, true, true, true, true, true, false] rfl rfl (by kernel_rfl) (fun _ _ _ h => h) (Or.inl ⟨by rfl, ?_⟩) ?_ ?_
  rotate_left
  · intro w'
    go_simp
    with_reducible rfl
  rotate_left
  · simp only [Act.put, List.setIfInBounds_toArray, List.set_cons_zero, List.set_cons_succ, i64_w, i32_w]
    rfl
  refine pure_ (i := 11) (N := some 9) (v := ?_) (a' := ?_) #[true, true, true, true, true, true, true, true, true, true, true, true] rfl rfl (by kernel_rfl) (fun _ _ _ h => h) (Or.inl ⟨by rfl, ?_⟩) ?_ ?_
  rotate_left
  · intro w'
    go_simp
    with_reducible rfl
  rotate_left
  · simp only [Act.put, List.setIfInBounds_toArray, List.set_cons_zero, List.set_cons_succ, i64_w, i32_w]
    rfl
  refine done_ (by kernel_rfl) ?_
  clear hHeld
  have y3 : w4.cell? ⟨w.heap.size, 3, none⟩ = some (.int .i64 c) := (blk_cell BK3.out 3).trans rfl
  have y2 : w4.cell? ⟨w.heap.size, 2, none⟩ = some (.int .i64 n) := (blk_cell BK3.out 2).trans rfl
  have e1 : wrap64 (n + (l.length : Int)) = n + (l.length : Int) := by unfold wrap64; omega
  have e2 : wrap64 (2 * c) = 2 * c := by unfold wrap64; omega
  have hd : decide (n + (l.length : Int) ≤ c) = false := decide_eq_false (by omega)
  have hd2 : decide (64 < n + (l.length : Int)) = false := decide_eq_false (by omega)
  have ht1 : (n + (l.length : Int) ≤ c) = False := eq_false (by omega)
  have ht2 : (64 < n + (l.length : Int)) = False := eq_false (by omega)
  have hd3 : decide ((m.length : Int) = 16) = false := decide_eq_false (by omega)
  have hd4 : ((m.length : Int) = 16) = False := eq_false (by omega)
  have yg : w4.cell? ⟨g, off, none⟩ = some (.slice A m.length mc) := (blk_cell BKg.out off).trans ho
  have hTE := Aside0.mk (show ∀ q, q ∈ 29 :: (Kd.slice 5 (Kd.int .u8)).E → q ≠ T from fun q hq => by
    rcases (show ∀ q, q ∈ 29 :: (Kd.slice 5 (Kd.int .u8)).E → q = 29 ∨ q = 5 by decide) q hq with rfl | rfl
    · exact fun e => hT2 e.symm
    · exact fun e => hT e.symm)
  have hoff := Aside0.mk (show off < cs.size from (Array.getElem?_eq_some_iff.1 ho).1)
  obtain ⟨M, hM, hMv⟩ : ∃ M : Int, Builtin.max2 (.int .i64 (2 * c)) (.int .i64 (n + (l.length : Int))) = pure (.int .i64 M) ∧ M = mx (2 * c) (n + (l.length : Int)) := ⟨_, max2_int _ _ _ _, rfl⟩
  obtain ⟨K, hK, hKv⟩ : ∃ K : Int, Builtin.min2 (.int .i64 64) (.int .i64 M) = pure (.int .i64 K) ∧ K = mn 64 M := ⟨_, min2_int _ _ _ _, rfl⟩
  have hK1 : n + (l.length : Int) ≤ K ∧ K ≤ 64 := by subst hKv; subst hMv; unfold mn mx; split <;> split <;> omega
  replace hKv := Aside0.mk (show K = mn 64 (mx (2 * c) (n + (l.length : Int))) by rw [hKv, hMv])
  clear hMv
  replace hS := Aside0.mk (Kd.S_below hS HB.out)
  have HC0 := Aside0.mk hC
  replace hS := Aside0.mk (Kd.S_mono (Kd.S_bound hS.out) (fun k hk => (⟨hk.1, hk.2.2.1⟩ : ok k ∧ k < w4.heap.size)))
  replace hC := Aside0.mk (Kd.C_below hC HB.out)
  obtain ⟨z, hz⟩ : ∃ z : List Int, z = List.replicate K.toNat (0 : Int) := ⟨_, rfl⟩
  have hzl : z.length = K.toNat := by rw [hz, List.length_replicate]
  replace hz := Aside0.mk hz
  replace hzl := Aside0.mk hzl
  go_wp2_with (first | ((with_reducible refine gate_dst (N := 62) rfl ?_); refine Kd.R_make (Kd.int .u8) (w0 := w4) w4.heap.size 5 rfl (N := 62) rfl 29 _ _ rfl K rfl rfl Try.underlying29 (.int .u8 0) 1 info5 rfl (by decide) (by omega) 0 (ok := fun _ => True) (okp := fun _ => True) rfl (fun _ hk => hk) trivial (by omega) (by omega) (Below.refl _ _) (Nat.le_refl _) ?_; intro v5 w5 ho5 hb5 hg5 hnew5; rw [← hz.out] at ho5))
  have hz0 : 0 < z.length := by rw [hzl.out]; omega
  obtain ⟨g5, c5, rfl, hge5, hlt5, hblk5⟩ := Kd.R_form ho5 hz0
  obtain ⟨gm, cm, em, _⟩ := Kd.S_form hS.out (by omega)
  obtain ⟨rfl, -, rfl⟩ := Value.slice.inj em
  replace hS := Aside0.mk (Kd.S_below hS.out hb5)
  replace hC := Aside0.mk (Kd.C_below hC.out hb5)
  have HA := Aside0.mk ho5
  replace BKg := Aside0.mk (blk_below BKg.out hb5)
  replace BK3 := Aside0.mk (blk_below BK3.out hb5)
  replace BK4 := Aside0.mk (blk_below BK4.out hb5)
  replace HB := Aside0.mk (below_step HB.out hb5)
  have HW5 := Aside0.mk (show w.heap.size + 2 ≤ g5 from Nat.le_trans Z1.out hge5)
  have Z5 := Aside0.mk (below_size hb5)
  clear ho5 hb5 hg5 hnew5 y2 y3 yg em
  refine start_ (n := 7) (S := fun w' => w'.cell? ⟨g, off, none⟩ = some (.slice (some ⟨gm, 0, none⟩) m.length mc) ∧ w'.cell? ⟨w.heap.size, 0, none⟩ = some (.int .i64 (ix : Int)) ∧ w'.cell? ⟨w.heap.size, 1, none⟩ = some (.int .i64 s) ∧ w'.cell? ⟨w.heap.size, 2, none⟩ = some (.int .i64 n) ∧ w'.cell? ⟨w.heap.size, 3, none⟩ = some (.int .i64 c)) (ds := [6]) #[false, false, false, false, false, false, false] (by kernel_rfl) rfl rfl ⟨(blk_cell BKg.out off).trans ho, (blk_cell BK3.out 0).trans rfl, (blk_cell BK3.out 1).trans rfl, (blk_cell BK3.out 2).trans rfl, (blk_cell BK3.out 3).trans rfl⟩ (fun hHeld => ?_)
  replace BKg := Aside0.mk (blk_drew BKg.out)
  replace BK3 := Aside0.mk (blk_drew BK3.out)
  replace BK4 := Aside0.mk (blk_drew BK4.out)
  replace HB := Aside0.mk (below_drew1 HB.out)
  replace hS := Aside0.mk (Kd.S_drew hS.out)
  replace hC := Aside0.mk (Kd.C_drew hC.out)
  replace HA := Aside0.mk (Kd.R_drew HA.out)
  replace Z5 := Aside0.mk (show w4.heap.size ≤ w5.drew.heap.size from Z5.out)
  generalize w5.drew = w6 at BKg BK3 BK4 HB hS hC HA Z5 hHeld ⊢
  refine pure_ (i := 0) (N := some 63) (v := ?_) (a' := ?_) #[true, false, false, false, false, false, false] rfl rfl (by kernel_rfl) (fun _ _ _ h => h) (Or.inl ⟨by rfl, ?_⟩) ?_ ?_
  rotate_left
  · intro w'
    go_simp
    with_reducible rfl
  rotate_left
  · simp only [Act.put, List.setIfInBounds_toArray, List.set_cons_zero, List.set_cons_succ, i64_w, i32_w]
    rfl
  refine pure_ (i := 1) (N := some 64) (v := ?_) (a' := ?_) #[true, true, false, false, false, false, false] rfl rfl (by kernel_rfl) (fun _ _ _ h => h) (Or.inl ⟨by rfl, ?_⟩) ?_ ?_
  rotate_left
  · intro w'
    go_simp
    with_reducible rfl
  rotate_left
  · simp only [Act.put, List.setIfInBounds_toArray, List.set_cons_zero, List.set_cons_succ, i64_w, i32_w]
    rfl
  refine pure_ (i := 2) (N := some 65) (v := ?_) (a' := ?_) #[true, true, true, false, false, false, false] rfl rfl (by kernel_rfl) (fun _ _ _ h => h) (Or.inl ⟨by rfl, ?_⟩) ?_ ?_
  rotate_left
  · intro w'
    go_simp
    with_reducible rfl
  rotate_left
  · simp only [Act.put, List.setIfInBounds_toArray, List.set_cons_zero, List.set_cons_succ, i64_w, i32_w]
    rfl
  refine take_ (i := 3) (N := some 66) (v := ?_) (a' := ?_) #[true, true, true, true, false, false, false] rfl rfl (by kernel_rfl) (fun _ _ _ h => h) (Or.inl ⟨by rfl, ?_⟩) hHeld ?_ ?_
  rotate_left
  · rintro w' ⟨s0, s1, s2, s3, s4⟩
    go_simp
    with_reducible rfl
  rotate_left
  · simp only [Act.put, List.setIfInBounds_toArray, List.set_cons_zero, List.set_cons_succ, i64_w, i32_w]
    rfl
  refine take_ (i := 4) (N := some 67) (v := ?_) (a' := ?_) #[true, true, true, true, true, false, false] rfl rfl (by kernel_rfl) (fun _ _ _ h => h) (Or.inl ⟨by rfl, ?_⟩) hHeld ?_ ?_
  rotate_left
  · rintro w' ⟨s0, s1, s2, s3, s4⟩
    go_simp
    with_reducible rfl
  rotate_left
  · simp only [Act.put, List.setIfInBounds_toArray, List.set_cons_zero, List.set_cons_succ, i64_w, i32_w]
    rfl
  obtain ⟨gr, cr, hcell, hcc, hok', hbg, hlt, ⟨cells, hblk⟩, hcells, _⟩ := S_row hS.out ix hix h6
  refine one_ (i := 5) (N := some 68) #[true, true, true, true, true, true, false] rfl rfl (by kernel_rfl) (by decide) (fun K_ hK_ => ?_)
  refine goes_ Try.func107 (by kernel_rfl) rfl #[.agg #[.slice (some ⟨gm, 0, none⟩) m.length mc], .agg #[.int .i64 (ix : Int), .int .i64 s, .int .i64 n, .int .i64 c]] (by rfl) rfl rfl (by (try simp only [List.map_toArray, List.map_cons, List.map_nil]); first | done | rfl) ?_
  refine (impl_Memory_seen.at_ ⟨gm, 0, none⟩ m.length mc ix s n c gr m[ix].length cr w6 (by rw [Int.toNat_natCast]; exact hcell) (by omega) (by omega) h2 h3 (by omega) (by omega)).mono ?_
  rintro e w7 ⟨rfl, hb7⟩
  refine ⟨_, rfl, ?_⟩
  replace hcells : ∀ j (hj : j < m[ix].length), w7.cell? ⟨gr, j, none⟩ = some (.int .u8 m[ix][j]) := fun j hj => (World.cell?_of_block (a := ⟨gr, j, none⟩) (hb7.block _ hlt)).trans (hcells j hj).1
  replace BKg := Aside0.mk (blk_below BKg.out hb7)
  replace BK3 := Aside0.mk (blk_below BK3.out hb7)
  replace BK4 := Aside0.mk (blk_below BK4.out hb7)
  replace HB := Aside0.mk (below_step HB.out hb7)
  replace hS := Aside0.mk (Kd.S_below hS.out hb7)
  replace hC := Aside0.mk (Kd.C_below hC.out hb7)
  replace HA := Aside0.mk (Kd.R_below HA.out hb7)
  replace Z5 := Aside0.mk (Nat.le_trans Z5.out (below_size hb7))
  clear hb7 hlt hcell hblk
  refine hK_.out _ _ ⟨(blk_cell BKg.out off).trans ho, (blk_cell BK3.out 0).trans rfl, (blk_cell BK3.out 1).trans rfl, (blk_cell BK3.out 2).trans rfl, (blk_cell BK3.out 3).trans rfl⟩ (fun hHeld => ?_)
  clear hK_ K_
  refine norm_ (a' := ?_) ?_ ?_
  rotate_left
  · show Act.put _ (some 68) _ = _
    simp only [Act.put, List.setIfInBounds_toArray, List.set_cons_zero, List.set_cons_succ, i64_w, i32_w]
    rfl
  have hrow : Kd.C (Kd.int .u8) w7 (some ⟨gr, 0, none⟩) m[ix].length m[ix] := Kd.C_of_reads (enc := Value.int .u8) (d := (0 : Int)) (h1 := fun _ => rfl) ⟨rfl, by omega, fun _ => ⟨_, rfl, fun j hj => by
    have := hcells j hj
    rw [show m[ix].getD j 0 = m[ix][j] by rw [List.getD_eq_getElem?_getD, List.getElem?_eq_getElem hj]; rfl]
    rw [add_mk_, Nat.zero_add]
    exact this⟩⟩
  have hpart := Kd.C_take (m := n.toNat) (Kd.C_drop (m := s.toNat) (c := cr) hrow (by omega) hcc) (by simp; omega)
  have hpl : ((m[ix].drop s.toNat).take n.toNat).length = n.toNat := by simp; omega
  rw [hpl] at hpart
  generalize hpv : (m[ix].drop s.toNat).take n.toNat = part at hpart hpl
  have hmin : min n.toNat z.length = n.toNat := by have := hzl.out; omega
  refine last_ (i := 6) (N := some 69) #[true, true, true, true, true, true, true] rfl rfl (by kernel_rfl) (by decide) (fun K_ hK_ => ?_)
  refine copy_wp (s := .tmp 63) (x := .tmp 68) (t := 29) (t' := 29) (e := 5) rfl (by rfl) Try.underlying29 (by kernel_rfl) g5 0 z.length c5 (by rfl) (some ⟨gr, if cr = s.toNat then 0 else s.toNat, none⟩) n.toNat (cr - s.toNat) (by rfl) part ?_ (fun j hj => ?_) (fun j hj => ?_) ?_
  · by_cases x1 : cr = s.toNat
    · rw [if_pos x1] at hpart ⊢
      exact hpart
    · rw [if_neg x1] at hpart ⊢
      have e9 : ((some (⟨gr, 0, none⟩ : Addr)).map (·.add (s.toNat * (Kd.int .u8).sz))) = some ⟨gr, s.toNat, none⟩ := by rw [Option.map_some, show (Kd.int .u8).sz = 1 from rfl, Nat.mul_one, add_mk_, Nat.zero_add]
      rw [e9] at hpart
      exact hpart
  · have := (Kd.R_cell (enc := Value.int .u8) (h1 := fun _ => rfl) (0 : Int) HA.out (j : Int) (by omega) (by have := hzl.out; omega)).1
    rw [Int.toNat_natCast] at this
    rw [Nat.zero_add, this]
    rfl
  · have := (Kd.R_cell (enc := Value.int .u8) (h1 := fun _ => rfl) (0 : Int) HA.out (j : Int) (by omega) (by have := hzl.out; omega)).2
    rw [Int.toNat_natCast] at this
    rw [Nat.zero_add]
    exact this
  rw [hmin, List.take_of_length_le (by omega)]
  obtain ⟨hA1, hg1⟩ := R_writes part 0 (by have := hzl.out; omega) HA.out
  refine hK_.out _ _ ?_
  clear hK_ K_ hrow hpart hcells hHeld
  refine done_ (by kernel_rfl) ?_
  generalize w7.setCells g5 0 (part.map (Value.int .u8)) = w8 at hA1 hg1 ⊢
  generalize (if cr = s.toNat then 0 else s.toNat) = so9
  have hw5 := HW5.out
  have hfar : ∀ {b : Nat} {o : Obj}, b < w.heap.size + 2 → w7.heap[b]? = some o → w8.heap[b]? = some o := fun hb_ h_ => (hg1.block _ (blk_lt h_) (fun e_ => by have := Option.some.inj e_; omega)).trans h_
  replace BKg := Aside0.mk (hfar (Nat.lt_succ_of_lt (Nat.lt_succ_of_lt HG.out)) BKg.out)
  replace BK3 := Aside0.mk (hfar (by omega) BK3.out)
  replace BK4 := Aside0.mk (hfar (by omega) BK4.out)
  replace hS := Aside0.mk (Kd.S_grown hS.out hg1 (fun k_ hk_ e_ => by have := Option.some.inj e_; have := hk_.2; omega))
  replace HB := Aside0.mk (below_of_grown HB.out hg1 (by omega) (below_size HB.out))
  replace hC := Aside0.mk (Kd.C_below HC0.out HB.out)
  replace Z5 := Aside0.mk (Nat.le_trans Z5.out hg1.size)
  have hzp : (over_ z 0 part).length = z.length := over_length (by have := hzl.out; omega)
  replace hA1 : Kd.R (Kd.int .u8) 5 w8 w4.heap.size (fun _ => True) (.slice (some ⟨g5, 0, none⟩) (over_ z 0 part).length c5) (over_ z 0 part) := by rw [hzp]; exact hA1
  replace HA := Aside0.mk hA1
  have hzc := (Kd.R_reads' hA1).2.1
  clear hA1 hg1 hfar
  have y2 : w8.cell? ⟨w.heap.size, 2, none⟩ = some (.int .i64 n) := (blk_cell BK3.out 2).trans rfl
  have yl := blk_lt BK3.out
  have d3 : decide (0 ≤ n) = true := decide_eq_true h3
  have d4 : decide (n ≤ (z.length : Int)) = true := decide_eq_true (by have := hzl.out; omega)
  have d5 : decide ((z.length : Int) ≤ (c5 : Int)) = true := decide_eq_true (by omega)
  have t3 := eq_true h3
  have t4 := eq_true (show n ≤ (z.length : Int) by have := hzl.out; omega)
  have t5 := eq_true (show (z.length : Int) ≤ (c5 : Int) by omega)
  have t6 : (c5 = n.toNat) = False := eq_false (by have := hzl.out; omega)
  have hmin2 : min l.length (z.length - n.toNat) = l.length := by have := hzl.out; omega
  go_wp2_with (first | ((with_reducible refine gate_dst (N := 75) rfl ?_); refine copyL_ (s := .tmp 73) (x := .tmp 74) (t := 29) (t' := 29) (e := 5) rfl rfl Try.underlying29 (by kernel_rfl) g5 n.toNat (z.length - n.toNat) (c5 - n.toNat) (by rfl) A1 l.length c1 (by rfl) l hC.out (fun j hj => ?hc) (fun j hj => ?hf) ?hk; (case hc => (have h_ := (Kd.R_cell (enc := Value.int .u8) (h1 := fun _ => rfl) (0 : Int) HA.out ((n.toNat + j : Nat) : Int) (by omega) (by rw [hzp]; omega)).1; rw [Int.toNat_natCast] at h_; rw [h_]; rfl)); (case hf => (have h_ := (Kd.R_cell (enc := Value.int .u8) (h1 := fun _ => rfl) (0 : Int) HA.out ((n.toNat + j : Nat) : Int) (by omega) (by rw [hzp]; omega)).2; rw [Int.toNat_natCast] at h_; exact h_)); rw [hmin2, List.take_length]; obtain ⟨hA2, hg2⟩ := R_writes l n.toNat (by rw [hzp]; have := hzl.out; omega) HA.out; generalize w8.setCells g5 n.toNat (l.map (Value.int .u8)) = w9 at hA2 hg2 ⊢; (have hfar : ∀ {b : Nat} {o : Obj}, b < w.heap.size + 2 → w8.heap[b]? = some o → w9.heap[b]? = some o := fun hb_ h_ => (hg2.block _ (blk_lt h_) (fun e_ => by have := Option.some.inj e_; have := HW5.out; omega)).trans h_); replace BKg := Aside0.mk (hfar (Nat.lt_succ_of_lt (Nat.lt_succ_of_lt HG.out)) BKg.out); replace BK3 := Aside0.mk (hfar (by omega) BK3.out); replace BK4 := Aside0.mk (hfar (by omega) BK4.out); replace hS := Aside0.mk (Kd.S_grown hS.out hg2 (fun k_ hk_ e_ => by have := Option.some.inj e_; have := hk_.2; omega)); replace HB := Aside0.mk (below_of_grown HB.out hg2 (by have := HW5.out; omega) (below_size HB.out)); replace Z5 := Aside0.mk (Nat.le_trans Z5.out hg2.size); rw [hzp] at hA2; replace HA := Aside0.mk hA2; clear hA2 hg2 hfar hC yl y2; (have yg : w9.cell? ⟨g, off, none⟩ = some (.slice (some ⟨gm, 0, none⟩) m.length mc) := (blk_cell BKg.out off).trans ho);have yl := blk_lt BKg.out) | ((with_reducible refine gate_dst (N := 83) rfl ?_); at_builtin; refine Kd.S_append (Kd.slice 5 (Kd.int .u8)) (w0 := w9) base rfl (.tmp 80) (.tmp 82) 22 29 (.slice none 0 0) 24 rfl Try.underlying22 info29 rfl (by decide) (by omega) (.slice (some ⟨gm, 0, none⟩) m.length mc) m (over_ (over_ z 0 part) n.toNat l) [.slice (some ⟨g5, 0, none⟩) z.length c5] ok (fun k_ => some k_ = (.slice (some ⟨g5, 0, none⟩) z.length c5 : Value).ownBlock) ?aH ?aX ?aP ?aK ?aF ?aO (Below.refl _ _) ?aS ?aL ?_; (case aH => rfl); (case aX => rfl); (case aP => exact Kd.M_row (Kd.R_mono (Kd.R_tight rfl (Kd.R_lower HA.out (Nat.le_trans hbase (Nat.le_trans (by omega) Z1.out)))) (fun _ h_ => h_))); (case aK => exact fun k_ hk_ => ((Kd.R_mono (ok' := fun k_ => ok k_ ∧ some k_ ≠ (.slice (some ⟨gm, 0, none⟩) m.length mc : Value).ownBlock) (Kd.R_apart' (Kd.R_bound HA.out) (Kd.S_typed hS.out) (by decide)) (fun k_ hk => ⟨hok k_ (by have := hk.1.2.1; have := Z1.out; omega), hk.2⟩)).1 k_ hk_.symm)); (case aF => exact fun k_ hk_ => hok k_ (Nat.le_trans (below_size HB.out) hk_)); (case aO => exact Kd.S_mono hS.out (fun k_ hk_ => ⟨hk_.1, fun e_ => by have : k_ = g5 := Option.some.inj e_; have := hk_.2; have := hge5; omega⟩)); (case aS => exact Nat.le_trans hbase (below_size HB.out)); (case aL => omega); intro v10 w10 ho10 hb10 hg10 hat10; obtain ⟨M1, hM1⟩ : ∃ M1, M1 = m ++ [over_ (over_ z 0 part) n.toNat l] := ⟨_, rfl⟩; rw [← hM1] at ho10; obtain ⟨A10, c10, rfl⟩ := Kd.S_slice ho10; obtain ⟨gm9, cm9, em9, hbm9, -, cl9, hbl9⟩ := Kd.S_form hS.out (by omega); obtain ⟨e9, -, -⟩ := Value.slice.inj em9; (have e9' : gm = gm9 := congrArg Addr.block (Option.some.inj e9)); subst e9'; have hKeep := Aside0.mk (Keep.trans (Keep.below HB.out) (Keep.row (g := g) hg10 hbl9 (Or.inl rfl))); have HBb := Aside0.mk (Below.trans (Below.mono HB.out hbase) hb10); replace BKg := Aside0.mk (blk_grown BKg.out hg10 (fun e_ => ne_types BKg.out hbl9 hT2 (Option.some.inj e_))); replace BK3 := Aside0.mk (blk_grown BK3.out hg10 (fun e_ => ne_types BK3.out hbl9 (by decide) (Option.some.inj e_))); replace BK4 := Aside0.mk (blk_grown BK4.out hg10 (fun e_ => ne_types BK4.out hbl9 (by decide) (Option.some.inj e_))); have HS10 := Aside0.mk ho10; have HM := Aside0.mk hM1; (have e5 : wrap64 ((M1.length : Int) - 1) = (m.length : Int) := by rw [hM1, List.length_append, List.length_singleton]; unfold wrap64; omega); clear hM1 ho10 hb10 hat10 hbl9 em9 e9 yg yl; (have yg : w10.cell? ⟨g, off, none⟩ = some (.slice (some ⟨gm, 0, none⟩) m.length mc) := (blk_cell BKg.out off).trans ho); have yf := blk_frozen BKg.out off; have yl := blk_lt BKg.out) | ((with_reducible refine gate_store (p := 85) rfl ?_); refine stB_ rfl rfl (w1 := World.setCell w10 ⟨g, off, none⟩ (.slice A10 M1.length c10)) ?hr (blk_put (cs' := cs.setIfInBounds off (.slice A10 M1.length c10)) BKg.out off _ rfl) (grown_set1 (World.grownBy.refl _ _) off _) ?_; (case hr => first | (go_simp; done) | (go_simp; rfl)); intro w11 hb_ hg_; replace HS10 := Aside0.mk (Kd.S_mono (Kd.S_grown (Kd.S_types HS10.out BKg.out hTE.out) hg_ (fun k_ hk_ e_ => hk_.2 (Option.some.inj e_))) (fun _ h_ => h_.1)); replace BK3 := Aside0.mk (blk_grown BK3.out hg_ (fun e_ => absurd (Option.some.inj e_) (by have := HG.out; omega))); replace BK4 := Aside0.mk (blk_grown BK4.out hg_ (fun e_ => absurd (Option.some.inj e_) (by have := HG.out; omega))); replace HBb := Aside0.mk (Below.trans HBb.out (below_of_grown (Below.refl base _) hg_ hbG (Nat.le_trans hbase (HBb.out.size)))); replace hKeep := Aside0.mk (Keep.trans hKeep.out (Keep.own hg_)); replace BKg := Aside0.mk hb_; clear hb_ hg_ yg yf yl; (have yg : w11.cell? ⟨g, off, none⟩ = some (.slice A10 M1.length c10) := (blk_cell BKg.out off).trans (by simp [hoff.out])); obtain ⟨qc0, qc1, qc2, qc3, qf0, qf1, qf2, qf3⟩ := zc4 BK4; have yl := blk_lt BKg.out; have ylz := blk_lt BK4.out) | ((with_reducible refine gate_store (p := 6) rfl ?_); refine stB_ rfl rfl (w1 := (World.setCell (World.setCell (World.setCell (World.setCell w11 ⟨w.heap.size + 1, 0, none⟩ (.int .i64 (m.length : Int))) ⟨w.heap.size + 1, 1, none⟩ (.int .i64 0)) ⟨w.heap.size + 1, 2, none⟩ (.int .i64 (n + (l.length : Int)))) ⟨w.heap.size + 1, 3, none⟩ (.int .i64 (z.length : Int)))) ?hr (puts4 BK4.out (.int .i64 (m.length : Int)) (.int .i64 0) (.int .i64 (n + (l.length : Int))) (.int .i64 (z.length : Int))) (grows4 w11 (w.heap.size + 1) (.int .i64 (m.length : Int)) (.int .i64 0) (.int .i64 (n + (l.length : Int))) (.int .i64 (z.length : Int))) ?_; (case hr => first | (go_simp; done) | (go_simp; rfl)); intro w12 hb_ hg_; replace HS10 := Aside0.mk (Kd.S_mono (Kd.S_grown (Kd.S_types HS10.out BK4.out (by decide)) hg_ (fun k_ hk_ e_ => hk_.2 (Option.some.inj e_))) (fun _ h_ => h_.1)); replace HBb := Aside0.mk (Below.trans HBb.out (below_of_grown (Below.refl base _) hg_ (by omega) (Nat.le_trans hbase (HBb.out.size)))); replace BKg := Aside0.mk (blk_grown BKg.out hg_ (fun e_ => absurd (Option.some.inj e_) (by have := HG.out; omega))); replace hKeep := Aside0.mk (Keep.new hKeep.out hg_ (Nat.le_succ _)); replace BK4 := Aside0.mk hb_; clear hb_ hg_))
  refine bodyPost_ret (results_ct rfl _ _ (w.heap.size + 1) 32 #[(.int .i64 (m.length : Int)), (.int .i64 0), (.int .i64 (n + (l.length : Int))), (.int .i64 (z.length : Int))] (0, 0) _ rfl BK4.out hu1 rfl (by kernel_rfl)) rfl ?_
  have hml : M1.length = m.length + 1 := by rw [HM.out, List.length_append, List.length_singleton]
  have hb1 := BKg.out
  have hs1 := HS10.out
  rw [hml] at hb1 hs1
  rw [HM.out, hz.out] at hs1
  have hzK : (z.length : Int) = mn 64 (mx (2 * c) (n + (l.length : Int))) := by rw [← hKv.out]; have := hzl.out; omega
  rw [hKv.out] at hs1
  subst hpv
  exact ⟨by rw [hzK]; rfl, A10, c10, hb1, hs1, HBb.out, hKeep.out⟩

theorem set_self {cs : Array Value} {off : Nat} {v : Value} (h : cs[off]? = some v) : cs.setIfInBounds off v = cs := by
  apply Array.ext_getElem?
  intro i
  rw [Array.getElem?_setIfInBounds]
  by_cases e : off = i
  · subst e
    rw [if_pos rfl, if_pos (Array.getElem?_eq_some_iff.1 h).1, h]
  · rw [if_neg e]

/-- What appended answers: the memory, the window, and whether it could be. -/
def appP (m : List (List Int)) (ix : Nat) (s n c : Int) (l : List Int) : List (List Int) × Int × Int × Int × Int × Bool :=
  if n + (l.length : Int) ≤ c then (m.set ix (over_ (m.getD ix []) (s + n).toNat l), ix, s, n + (l.length : Int), c, true)
  else if 64 < n + (l.length : Int) ∨ m.length = 16 then (m, 0, 0, 0, 0, false)
  else (m ++ [over_ (over_ (List.replicate (mn 64 (mx (2 * c) (n + (l.length : Int)))).toNat 0) 0 (((m.getD ix []).drop s.toNat).take n.toNat)) n.toNat l], m.length, 0, n + (l.length : Int), mn 64 (mx (2 * c) (n + (l.length : Int))), true)

theorem appended_calls (g off : Nat) (cs : Array Value) (T : TypeId) (A : Option Addr) (mc : Nat) (m : List (List Int)) (ix : Nat) (s n c : Int) (A1 : Option Addr) (c1 : Nat) (l : List Int) (base : Nat) (ok : Nat → Prop) (w : World) (hb : w.heap[g]? = some (.cells cs T (0, 0))) (ho : cs[off]? = some (.slice A m.length mc))
    (hS : Kd.S (Kd.slice 5 (Kd.int .u8)) 29 w base ok (.slice A m.length mc) m) (hC : Kd.C (Kd.int .u8) w A1 l.length l) (hl : l.length ≤ 281474976710656) (h2 : 0 ≤ s) (h3 : 0 ≤ n) (h9 : n ≤ c) (hix : ix < m.length) (h4 : s + c ≤ (m[ix].length : Int)) (h5 : m[ix].length ≤ 64) (h6 : 0 < m[ix].length) (hm : m.length ≤ 16) (hT : T ≠ 5) (hT2 : T ≠ 29) (hbase : base ≤ w.heap.size) (hbG : base ≤ g) (hok : ∀ k, w.heap.size ≤ k → ok k) :
    Calls Try.prog 189 #[.pointer (some ⟨g, off, none⟩), .agg #[.int .i64 (ix : Int), .int .i64 s, .int .i64 n, .int .i64 c], .slice A1 l.length c1] w fun e w' => e = .returned (.tuple #[.agg #[.int .i64 (appP m ix s n c l).2.1, .int .i64 (appP m ix s n c l).2.2.1, .int .i64 (appP m ix s n c l).2.2.2.1, .int .i64 (appP m ix s n c l).2.2.2.2.1], .bool (appP m ix s n c l).2.2.2.2.2]) ∧ ∃ A' c', w'.heap[g]? = some (.cells (cs.setIfInBounds off (.slice A' (appP m ix s n c l).1.length c')) T (0, 0)) ∧ Kd.S (Kd.slice 5 (Kd.int .u8)) 29 w' base ok (.slice A' (appP m ix s n c l).1.length c') (appP m ix s n c l).1 ∧ Below base w w' ∧ Keep w w' g := by
  have hw : wrap64 (n + (l.length : Int)) = n + (l.length : Int) := by unfold wrap64; omega
  have hrow : m.getD ix [] = m[ix] := by rw [List.getD_eq_getElem?_getD, List.getElem?_eq_getElem hix]; rfl
  unfold appP
  by_cases h1 : n + (l.length : Int) ≤ c
  · rw [if_pos h1, hrow]
    obtain ⟨gm, cm, em, _⟩ := Kd.S_form hS (by omega)
    obtain ⟨rfl, -, rfl⟩ := Value.slice.inj em
    refine (appended_room g off cs T ⟨gm, 0, none⟩ mc m ix s n c A1 c1 l base ok w hb ho hS hC h1 h2 h3 hix h4 (by omega) h6 (by omega) hT).mono ?_
    rintro e w' ⟨rfl, hb', hS', gr, ⟨cells, hgr⟩, hbr, _, hg⟩
    refine ⟨rfl, some ⟨gm, 0, none⟩, mc, ?_, ?_, ?_, Keep.row hg hgr (Or.inr rfl)⟩
    · simp only [List.length_set]
      rw [set_self ho]
      exact hb'
    · simp only [List.length_set]
      exact hS'
    · exact below_of_grown (Below.refl base w) hg hbr hbase
  · rw [if_neg h1]
    by_cases h7 : 64 < n + (l.length : Int) ∨ m.length = 16
    · rw [if_pos h7]
      refine (appended_no g off cs T A m.length mc (ix : Int) s n c A1 c1 l w hb ho (by rw [hw]; exact h1) (by rw [hw]; exact h7)).mono ?_
      rintro e w' ⟨rfl, hB⟩
      exact ⟨rfl, A, mc, by rw [set_self ho]; exact blk_below hb hB, Kd.S_below hS hB, Below.mono hB hbase, Keep.below hB⟩
    · rw [if_neg h7, hrow]
      refine (appended_new g off cs T A mc m ix s n c A1 c1 l base ok w hb ho hS hC h1 (by omega) (by omega) h2 h3 h9 hix h4 h5 h6 hT hT2 hbase hbG hok).mono ?_
      rintro e w' ⟨rfl, A', c', hb', hS', hB, hK⟩
      refine ⟨rfl, A', c', ?_, ?_, hB, hK⟩
      · simp only [List.length_append, List.length_singleton]
        exact hb'
      · simp only [List.length_append, List.length_singleton]
        exact hS'

/-- The same, what it answers by letters. -/
theorem appended_at {M : List (List Int)} {a' s' n' c' : Int} {b : Bool} (g off : Nat) (cs : Array Value) (T : TypeId) (A : Option Addr) (mc : Nat) (m : List (List Int)) (ix : Nat) (s n c : Int) (A1 : Option Addr) (c1 : Nat) (l : List Int) (hP : appP m ix s n c l = (M, a', s', n', c', b)) (base : Nat) (ok : Nat → Prop) (w : World) (hb : w.heap[g]? = some (.cells cs T (0, 0))) (ho : cs[off]? = some (.slice A m.length mc))
    (hS : Kd.S (Kd.slice 5 (Kd.int .u8)) 29 w base ok (.slice A m.length mc) m) (hC : Kd.C (Kd.int .u8) w A1 l.length l) (hl : l.length ≤ 281474976710656) (h2 : 0 ≤ s) (h3 : 0 ≤ n) (h9 : n ≤ c) (hix : ix < m.length) (h4 : s + c ≤ (m[ix].length : Int)) (h5 : m[ix].length ≤ 64) (h6 : 0 < m[ix].length) (hm : m.length ≤ 16) (hT : T ≠ 5) (hT2 : T ≠ 29) (hbase : base ≤ w.heap.size) (hbG : base ≤ g) (hok : ∀ k, w.heap.size ≤ k → ok k) :
    Calls Try.prog 189 #[.pointer (some ⟨g, off, none⟩), .agg #[.int .i64 (ix : Int), .int .i64 s, .int .i64 n, .int .i64 c], .slice A1 l.length c1] w fun e w' => e = .returned (.tuple #[.agg #[.int .i64 a', .int .i64 s', .int .i64 n', .int .i64 c'], .bool b]) ∧ ∃ A' cc', w'.heap[g]? = some (.cells (cs.setIfInBounds off (.slice A' M.length cc')) T (0, 0)) ∧ Kd.S (Kd.slice 5 (Kd.int .u8)) 29 w' base ok (.slice A' M.length cc') M ∧ Below base w w' ∧ Keep w w' g := by
  have h := appended_calls g off cs T A mc m ix s n c A1 c1 l base ok w hb ho hS hC hl h2 h3 h9 hix h4 h5 h6 hm hT hT2 hbase hbG hok
  rw [hP] at h
  exact h

/-- Where it could be, the window is one of the memory, long enough. -/
theorem appP_ok {M : List (List Int)} {a' s' n' c' : Int} {m : List (List Int)} {ix : Nat} {s n c : Int} {l : List Int} (hP : appP m ix s n c l = (M, a', s', n', c', true)) (h2 : 0 ≤ s) (h3 : 0 ≤ n) (h9 : n ≤ c) (hix : ix < m.length) (h4 : s + c ≤ (m[ix].length : Int)) (h5 : m[ix].length ≤ 64) (h6 : 0 < m[ix].length) (hm : m.length ≤ 16) :
    ∃ jx : Nat, a' = (jx : Int) ∧ ∃ hj : jx < M.length, M.length ≤ 16 ∧ 0 ≤ s' ∧ n' = n + (l.length : Int) ∧ n' ≤ c' ∧ s' + c' ≤ (M[jx].length : Int) ∧ M[jx].length ≤ 64 ∧ 0 < M[jx].length := by
  have hrow : m.getD ix [] = m[ix] := by rw [List.getD_eq_getElem?_getD, List.getElem?_eq_getElem hix]; rfl
  unfold appP at hP
  rw [hrow] at hP
  by_cases h1 : n + (l.length : Int) ≤ c
  · rw [if_pos h1] at hP
    simp only [Prod.mk.injEq] at hP
    obtain ⟨rfl, rfl, rfl, rfl, rfl, _⟩ := hP
    have hov : (over_ m[ix] (s + n).toNat l).length = m[ix].length := over_length (by omega)
    refine ⟨ix, rfl, by rw [List.length_set]; exact hix, by rw [List.length_set]; exact hm, h2, rfl, h1, ?_, ?_, ?_⟩
    · rw [List.getElem_set_self, hov]; exact h4
    · rw [List.getElem_set_self, hov]; exact h5
    · rw [List.getElem_set_self, hov]; exact h6
  · rw [if_neg h1] at hP
    by_cases h7 : 64 < n + (l.length : Int) ∨ m.length = 16
    · rw [if_pos h7] at hP
      simp at hP
    · rw [if_neg h7] at hP
      simp only [Prod.mk.injEq] at hP
      obtain ⟨rfl, rfl, rfl, rfl, rfl, _⟩ := hP
      have hK : n + (l.length : Int) ≤ mn 64 (mx (2 * c) (n + (l.length : Int))) ∧ mn 64 (mx (2 * c) (n + (l.length : Int))) ≤ 64 := by unfold mn mx; split <;> split <;> omega
      have hpl : ((m[ix].drop s.toNat).take n.toNat).length = n.toNat := by simp; omega
      have hov1 : (over_ (List.replicate (mn 64 (mx (2 * c) (n + (l.length : Int)))).toNat (0 : Int)) 0 ((m[ix].drop s.toNat).take n.toNat)).length = (mn 64 (mx (2 * c) (n + (l.length : Int)))).toNat := by rw [over_length (by rw [hpl, List.length_replicate]; omega), List.length_replicate]
      have hov : (over_ (over_ (List.replicate (mn 64 (mx (2 * c) (n + (l.length : Int)))).toNat (0 : Int)) 0 ((m[ix].drop s.toNat).take n.toNat)) n.toNat l).length = (mn 64 (mx (2 * c) (n + (l.length : Int)))).toNat := by rw [over_length (by rw [hov1]; omega), hov1]
      refine ⟨m.length, rfl, by simp, by simp; omega, by omega, rfl, hK.1, ?_, ?_, ?_⟩
      · rw [List.getElem_append_right (Nat.le_refl _)]
        simp only [Nat.sub_self, List.getElem_cons_zero]
        rw [hov]; omega
      · rw [List.getElem_append_right (Nat.le_refl _)]
        simp only [Nat.sub_self, List.getElem_cons_zero]
        rw [hov]; omega
      · rw [List.getElem_append_right (Nat.le_refl _)]
        simp only [Nat.sub_self, List.getElem_cons_zero]
        rw [hov]; omega
end Go.Proofs.Ytmkcbbbknbahgaa.P
namespace Go.Proofs.Ytmkcbbbknbahgaa.P
open Go.RowKit Go.Proofs.YtmkcbbbknbahgaaW.PrintWords Go.Proofs.YtmkcbbbknbahgaaW.PrintLast Go.Proofs.YtmkcbbbknbahgaaW.PrintMore
set_option linter.unusedVariables false

/-- From some number of rounds on, F tells r. -/
def Ter {α : Type} (F : Nat → Option α) (r : α) : Prop := ∃ K, ∀ k, K ≤ k → F k = some r

theorem Ter.const {α : Type} {o : Option α} {r : α} (h : o = some r) : Ter (fun _ => o) r := ⟨0, fun _ _ => h⟩

theorem Ter.ret {α : Type} (r : α) : Ter (fun _ => some r) r := ⟨0, fun _ _ => rfl⟩

theorem Ter.succ {α : Type} {F : Nat → Option α} {r : α} (h : Ter (fun k => F (k + 1)) r) : Ter F r := by
  obtain ⟨K, h⟩ := h
  refine ⟨K + 1, fun k hk => ?_⟩
  obtain ⟨j, rfl⟩ : ∃ j, k = j + 1 := ⟨k - 1, by omega⟩
  exact h j (by omega)

theorem Ter.bind {α β : Type} {F : Nat → Option α} {G : Nat → α → Option β} {a : α} {b : β} (h1 : Ter F a) (h2 : Ter (fun k => G k a) b) : Ter (fun k => (F k).bind (G k)) b := by
  obtain ⟨K1, h1⟩ := h1
  obtain ⟨K2, h2⟩ := h2
  refine ⟨K1 + K2, fun k hk => ?_⟩
  show (F k).bind (G k) = _
  rw [h1 k (by omega)]
  exact h2 k (by omega)

theorem Ter.ifp {α : Type} {c : Prop} [Decidable c] {F G : Nat → Option α} {r : α} (h : c) (h1 : Ter F r) : Ter (fun k => if c then F k else G k) r := by
  simp only [if_pos h]
  exact h1

theorem Ter.ifn {α : Type} {c : Prop} [Decidable c] {F G : Nat → Option α} {r : α} (h : ¬ c) (h1 : Ter G r) : Ter (fun k => if c then F k else G k) r := by
  simp only [if_neg h]
  exact h1

theorem Ter.congr {α : Type} {F G : Nat → Option α} {r : α} (h : ∀ k, F k = G k) (h1 : Ter G r) : Ter F r := by
  obtain ⟨K, h1⟩ := h1
  exact ⟨K, fun k hk => (h k).trans (h1 k hk)⟩

theorem Ter.eq {α : Type} {F : Nat → Option α} {r s : α} (h : Ter F r) (e : r = s) : Ter F s := e ▸ h

theorem Ter.at {α : Type} {F : Nat → Option α} {r : α} (h : Ter F r) : ∃ K, ∀ k, K ≤ k → F k = some r := h

/-- Down from the last index. -/
theorem down_ {Q : Nat → Prop} (n : Nat) (fin : Q n) (step : ∀ i, i < n → Q (i + 1) → Q i) : ∀ i, i ≤ n → Q i := by
  have h : ∀ j i, i + j = n → Q i := by
    intro j
    induction j with
    | zero => intro i h; have : i = n := by omega
              exact this ▸ fin
    | succ j ih => intro i h; exact step i (by omega) (ih (i + 1) (by omega))
  intro i hi
  exact h (n - i) i (by omega)

theorem w64 {n : Int} (h0 : -9223372036854775808 ≤ n) (h1 : n ≤ 9223372036854775807) : wrap64 n = n := by unfold wrap64; omega

theorem w64s {i n : Nat} (h : i < n) (hn : n ≤ 9223372036854775807) : wrap64 ((i : Int) + 1) = ((i + 1 : Nat) : Int) := by
  rw [w64 (by omega) (by omega)]
  omega

theorem maxLen_ : maxLen = 9223372036854775807 := rfl

theorem getD_at {α : Type} {xs : List α} {d : α} {i : Nat} (h : i < xs.length) : xs.getD ((i : Int)).toNat d = xs[i] := by
  rw [Int.toNat_natCast, List.getD_eq_getElem?_getD, List.getElem?_eq_getElem h]
  rfl

theorem rd_at {xs : List Int} {i : Nat} (h : i < xs.length) : rd xs (i : Int) = xs[i] := getD_at h

theorem fill_set {α : Type} {xs : List α} {z : α} {i : Nat} (h : i < xs.length) : (xs.take i ++ List.replicate (xs.length - i) z).set ((i : Int)).toNat xs[i] = xs.take (i + 1) ++ List.replicate (xs.length - (i + 1)) z := by
  rw [Int.toNat_natCast]
  apply List.ext_getElem?
  intro j
  by_cases hj : j = i
  · subst hj
    rw [List.getElem?_set_self (by simp; omega), List.getElem?_append_left (by simp; omega), List.getElem?_take_of_lt (by omega), List.getElem?_eq_getElem h]
  · rw [List.getElem?_set_ne (by omega)]
    by_cases h1 : j < i
    · rw [List.getElem?_append_left (by simp; omega), List.getElem?_append_left (by simp; omega), List.getElem?_take_of_lt h1, List.getElem?_take_of_lt (by omega)]
    · rw [List.getElem?_append_right (by simp; omega), List.getElem?_append_right (by simp; omega)]
      simp only [List.length_take, List.getElem?_replicate]
      rw [show min i xs.length = i by omega, show min (i + 1) xs.length = i + 1 by omega]
      by_cases h2 : j < xs.length
      · rw [if_pos (by omega), if_pos (by omega)]
      · rw [if_neg (by omega), if_neg (by omega)]

theorem fill_len {α : Type} {xs : List α} {z : α} {i : Nat} (h : i ≤ xs.length) : (xs.take i ++ List.replicate (xs.length - i) z).length = xs.length := by
  simp
  omega

theorem fill_all {α : Type} {xs : List α} {z : α} : xs.take xs.length ++ List.replicate (xs.length - xs.length) z = xs := by simp

theorem take_one {α : Type} {xs : List α} {i : Nat} (h : i < xs.length) : xs.take i ++ [xs[i]] = xs.take (i + 1) := by
  rw [List.take_add_one, List.getElem?_eq_getElem h]
  rfl
end Go.Proofs.Ytmkcbbbknbahgaa.P
namespace Go.Proofs.Ytmkcbbbknbahgaa.P
open Go.RowKit Go.Proofs.YtmkcbbbknbahgaaW.PrintWords Go.Proofs.YtmkcbbbknbahgaaW.PrintLast Go.Proofs.YtmkcbbbknbahgaaW.PrintMore
set_option linter.unusedVariables false
set_option linter.unusedSimpArgs false

def widen.T4 : Bool × List (List Nat × List Nat) := (true, [([], []), ([0], [0]), ([1], [1]), ([], []), ([3], [3]), ([4], [4]), ([5], [5]), ([], []), ([7, 7], [7]), ([2, 6, 8], [2, 6, 8]), ([9], [9]), ([10], [10]), ([10], [10]), ([], []), ([13, 11, 9, 0, 1, 2, 3, 4, 5, 6, 7, 8, 9, 10, 11, 13], [11, 13]), ([12, 14, 0, 1, 2, 3, 4, 5, 6, 7, 8, 9, 10, 11, 12, 13, 14], [12])])

def widen.B4 : List Nat := [0, 1, 3, 0, 8, 24, 56, 0, 128, 511, 1023, 2047, 2047, 0, 12287, 32767]

theorem widen.tab4 : rtab .any (opsOf Try.f147 4) = widen.T4 := by kernel_rfl

theorem widen.bits4 : waitsOk widen.T4.2 widen.B4 = true := by kernel_rfl

set_option maxHeartbeats 4000000 in
set_option maxRecDepth 100000 in
theorem widen_no (gb mc : Nat) (A : Option Addr) (m : List (List Int)) (ix : Nat) (s n c fr tt N : Int) (base : Nat) (ok : Nat → Prop) (w : World) (hb : w.heap[gb]? = some (.cells #[.slice A m.length mc, .int .i64 (ix : Int), .int .i64 s, .int .i64 n, .int .i64 c, .int .i64 fr, .int .i64 tt] 34 (0, 0)))
    (hS : Kd.S (Kd.slice 5 (Kd.int .u8)) 29 w base ok (.slice A m.length mc) m) (h2 : 0 ≤ s) (h3 : 0 ≤ n) (h9 : n ≤ c) (hix : ix < m.length) (h4 : s + c ≤ (m[ix].length : Int)) (h5 : m[ix].length ≤ 64) (h6 : 0 < m[ix].length) (hm : m.length ≤ 16) (ht1 : 0 ≤ tt) (ht2 : tt ≤ n) (hN : 0 ≤ N) (hbase : base ≤ w.heap.size) (hbG : base ≤ gb) (hok : ∀ k, w.heap.size ≤ k → ok k) (hN2 : 64 < N) :
    Calls Try.prog 147 #[.pointer (some ⟨gb, 0, none⟩), .int .i64 N] w fun e w' => e = .returned (.bool false) ∧ Below w.heap.size w w' := by
  have hd : decide (64 < N) = true := decide_eq_true hN2
  have hd2 : (64 < N) = True := eq_true hN2
  have HB := Aside0.mk (Below.refl w.heap.size w)
  go_enter Try.func147, Try.ntmps147
  go_wp2_with fail
  go_ret
  exact ⟨rfl, HB.out⟩

set_option maxHeartbeats 4000000 in
set_option maxRecDepth 100000 in
theorem widen_fell {M : List (List Int)} {a' s' n' c' : Int} (gb mc : Nat) (A : Option Addr) (m : List (List Int)) (ix : Nat) (s n c fr tt N : Int) (base : Nat) (ok : Nat → Prop) (w : World) (hb : w.heap[gb]? = some (.cells #[.slice A m.length mc, .int .i64 (ix : Int), .int .i64 s, .int .i64 n, .int .i64 c, .int .i64 fr, .int .i64 tt] 34 (0, 0)))
    (hS : Kd.S (Kd.slice 5 (Kd.int .u8)) 29 w base ok (.slice A m.length mc) m) (h2 : 0 ≤ s) (h3 : 0 ≤ n) (h9 : n ≤ c) (hix : ix < m.length) (h4 : s + c ≤ (m[ix].length : Int)) (h5 : m[ix].length ≤ 64) (h6 : 0 < m[ix].length) (hm : m.length ≤ 16) (ht1 : 0 ≤ tt) (ht2 : tt ≤ n) (hN : 0 ≤ N) (hbase : base ≤ w.heap.size) (hbG : base ≤ gb) (hok : ∀ k, w.heap.size ≤ k → ok k) (z : List Int) (hz : z = List.replicate N.toNat 0) (hN2 : N ≤ 64) (hP : appP m ix s n c z = (M, a', s', n', c', false)) :
    Calls Try.prog 147 #[.pointer (some ⟨gb, 0, none⟩), .int .i64 N] w fun e w' => e = .returned (.bool false) ∧ ∃ A' cc, w'.heap[gb]? = some (.cells #[.slice A' M.length cc, .int .i64 (ix : Int), .int .i64 s, .int .i64 n, .int .i64 c, .int .i64 fr, .int .i64 tt] 34 (0, 0)) ∧ Kd.S (Kd.slice 5 (Kd.int .u8)) 29 w' base ok (.slice A' M.length cc) M ∧ Below base w w' ∧ Keep w w' gb := by
  have hgl := blk_lt hb
  have HG := Aside0.mk hgl
  have BKg := Aside0.mk hb
  have HS := Aside0.mk hS
  have hzl : z.length = N.toNat := by rw [hz, List.length_replicate]
  have HZ := Aside0.mk hz
  have hzl8 : z.length ≤ 281474976710656 := by omega
  replace hzl8 := Aside0.mk hzl8
  replace hzl := Aside0.mk hzl
  have HP := Aside0.mk hP
  have hd : decide (64 < N) = false := decide_eq_false (by omega)
  have hd2 : (64 < N) = False := eq_false (by omega)
  clear hb hS hz hP
  obtain ⟨pc0, pc1, pc2, pc3, pc4, pc5, pc6, pf0, pf1, pf2, pf3, pf4, pf5, pf6⟩ := zc7 BKg
  go_enter Try.func147, Try.ntmps147
  go_wp2_with fail
  clear pc0 pc1 pc2 pc3 pc4 pc5 pc6 pf0 pf1 pf2 pf3 pf4 pf5 pf6 hd hd2
  refine start_ (n := 16) (S := fun w' => True) (ds := []) #[false, false, false, false, false, false, false, false, false, false, false, false, false, false, false, false] (by kernel_rfl) rfl rfl trivial (fun hHeld => ?_)
  refine with_tabW widen.tab4 widen.bits4 (fun HT_ HW_ => ?_)
  clear hHeld
  have G0 := Aside0.mk (blk_drew BKg.out)
  have S0 := Aside0.mk (Kd.S_drew HS.out)
  have HZ0 := Aside0.mk (show w.heap.size ≤ w.drew.heap.size from Nat.le_refl _)
  have HB0 := Aside0.mk (below_drew1 (Below.refl base w))
  have HK0 := Aside0.mk (show Keep w w.drew gb from fun k c t h _ _ _ => blk_drew h)
  clear BKg HS
  generalize w.drew = wd at G0 S0 HZ0 HB0 HK0 ⊢
  have HBW := Aside0.mk (Nat.le_trans hbase HZ0.out)
  have HGW := Aside0.mk (Nat.lt_of_lt_of_le HG.out HZ0.out)
  have HD := Aside0.mk (Below.refl base wd)
  have KP := Aside0.mk (show Keep wd wd gb from fun k c t h _ _ _ => h)
  refine pure_ (i := 0) (N := some 17) (v := ?_) (a' := ?_) #[true, false, false, false, false, false, false, false, false, false, false, false, false, false, false, false] rfl rfl (by kernel_rfl) (fun _ _ _ h => h) (Or.inl ⟨by rfl, ?_⟩) ?_ ?_
  rotate_left
  · intro w'
    go_simp
    with_reducible rfl
  rotate_left
  · simp only [Act.put, List.setIfInBounds_toArray, List.set_cons_zero, List.set_cons_succ, i64_w, i32_w]
    rfl
  refine pure_ (i := 1) (N := some 18) (v := ?_) (a' := ?_) #[true, true, false, false, false, false, false, false, false, false, false, false, false, false, false, false] rfl rfl (by kernel_rfl) (fun _ _ _ h => h) (Or.inl ⟨by rfl, ?_⟩) ?_ ?_
  rotate_left
  · intro w'
    go_simp
    with_reducible rfl
  rotate_left
  · simp only [Act.put, List.setIfInBounds_toArray, List.set_cons_zero, List.set_cons_succ, i64_w, i32_w]
    rfl
  refine pure_ (i := 2) (N := some 19) (v := ?_) (a' := ?_) #[true, true, true, false, false, false, false, false, false, false, false, false, false, false, false, false] rfl rfl (by kernel_rfl) (fun _ _ _ h => h) (Or.inl ⟨by rfl, ?_⟩) ?_ ?_
  rotate_left
  · intro w'
    go_simp
    with_reducible rfl
  rotate_left
  · simp only [Act.put, List.setIfInBounds_toArray, List.set_cons_zero, List.set_cons_succ, i64_w, i32_w]
    rfl
  refine pure_ (i := 3) (N := some 20) (v := ?_) (a' := ?_) #[true, true, true, true, false, false, false, false, false, false, false, false, false, false, false, false] rfl rfl (by kernel_rfl) (fun _ _ _ h => h) (Or.inl ⟨by rfl, ?_⟩) ?_ ?_
  rotate_left
  · intro w'
    go_simp
    with_reducible rfl
  rotate_left
  · simp only [Act.put, List.setIfInBounds_toArray, List.set_cons_zero, List.set_cons_succ, i64_w, i32_w]
    rfl
  refine pure_ (i := 4) (N := some 21) (v := ?_) (a' := ?_) #[true, true, true, true, true, false, false, false, false, false, false, false, false, false, false, false] rfl rfl (by kernel_rfl) (fun _ _ _ h => h) (Or.inl ⟨by rfl, ?_⟩) ?_ ?_
  rotate_left
  · intro w'
    go_simp
    with_reducible rfl
  rotate_left
  · simp only [Act.put, List.setIfInBounds_toArray, List.set_cons_zero, List.set_cons_succ, i64_w, i32_w]
    rfl
  refine pure_ (i := 5) (N := some 22) (v := ?_) (a' := ?_) #[true, true, true, true, true, true, false, false, false, false, false, false, false, false, false, false] rfl rfl (by kernel_rfl) (fun _ _ _ h => h) (Or.inl ⟨by rfl, ?_⟩) ?_ ?_
  rotate_left
  · intro w'
    go_simp
    with_reducible rfl
  rotate_left
  · simp only [Act.put, List.setIfInBounds_toArray, List.set_cons_zero, List.set_cons_succ, i64_w, i32_w]
    rfl
  refine pure_ (i := 7) (N := some 24) (v := ?_) (a' := ?_) #[true, true, true, true, true, true, false, true, false, false, false, false, false, false, false, false] rfl rfl (by kernel_rfl) (fun _ _ _ h => h) (Or.inl ⟨by rfl, ?_⟩) ?_ ?_
  rotate_left
  · intro w'
    go_simp
    with_reducible rfl
  rotate_left
  · simp only [Act.put, List.setIfInBounds_toArray, List.set_cons_zero, List.set_cons_succ, i64_w, i32_w]
    rfl
  refine inv_at [6, 8, 9, 10, 11, 12, 13, 14, 15] (fun a0_ b a w' => ∃ (A8_ : Option Addr) (c8_ : Nat) (A9_ : Option Addr) (c9_ : Nat) (g13_ : Nat) (m8_ : Value) (m13_ : Value), a = putSel a0_ b [(6, 23, .agg #[.int .i64 (ix : Int), .int .i64 s, .int .i64 n, .int .i64 c]), (8, 25, m8_), (9, 26, .tuple #[.agg #[.int .i64 a', .int .i64 s', .int .i64 n', .int .i64 c'], .bool false]), (10, 16, .tuple #[.agg #[.int .i64 a', .int .i64 s', .int .i64 n', .int .i64 c'], .bool false]), (11, 27, .agg #[.int .i64 a', .int .i64 s', .int .i64 n', .int .i64 c']), (12, 28, .bool false), (13, 6, m13_), (15, 7, .bool false)] ∧ (Below base wd w') ∧ (Keep wd w' gb) ∧ (b 9 = false → w'.heap[gb]? = some (.cells #[.slice A m.length mc, .int .i64 (ix : Int), .int .i64 s, .int .i64 n, .int .i64 c, .int .i64 fr, .int .i64 tt] 34 (0, 0))) ∧ (b 9 = false → Kd.S (Kd.slice 5 (Kd.int .u8)) 29 w' base ok (.slice A m.length mc) m) ∧ (b 8 = true → b 9 = false → Kd.R (Kd.int .u8) 5 w' wd.heap.size (fun _ => True) (.slice A8_ z.length c8_) z) ∧ (b 9 = true → w'.heap[gb]? = some (.cells #[.slice A9_ M.length c9_, .int .i64 (ix : Int), .int .i64 s, .int .i64 n, .int .i64 c, .int .i64 fr, .int .i64 tt] 34 (0, 0))) ∧ (b 9 = true → Kd.S (Kd.slice 5 (Kd.int .u8)) 29 w' base ok (.slice A9_ M.length c9_) M) ∧ (b 13 = true → b 14 = false → wd.heap.size ≤ g13_ ∧ w'.heap[g13_]? = some (.cells #[.int .i64 0, .int .i64 0, .int .i64 0, .int .i64 0] 32 (0, 0))) ∧ (b 13 = true → b 14 = true → wd.heap.size ≤ g13_ ∧ w'.heap[g13_]? = some (.cells #[.int .i64 a', .int .i64 s', .int .i64 n', .int .i64 c'] 32 (0, 0))) ∧ (b 8 = true → (m8_ : Value) = .slice A8_ z.length c8_) ∧ (b 13 = true → (m13_ : Value) = .pointer (some ⟨g13_, 0, none⟩))) HT_.out HW_.out (by kernel_rfl) (by kernel_rfl) ?_ ?_ ?_
  · exact ⟨none, 0, none, 0, 0, .bool false, .bool false, by simp only [putSel, Bool.false_eq_true, if_false], HD.out, KP.out, fun _ => G0.out, fun _ => S0.out, fun h_ => absurd h_ (by decide), fun h_ => absurd h_ (by decide), fun h_ => absurd h_ (by decide), fun h_ => absurd h_ (by decide), fun h_ => absurd h_ (by decide), fun h_ => absurd h_ (by decide), fun h_ => absurd h_ (by decide)⟩
  · skip
    clear G0 HD KP S0
    refine steps_cons ?_ ?_
    · rintro b a w' ⟨A8_, c8_, A9_, c9_, g13_, m8_, m13_, ha, Q_HD, Q_KP, Q_G0, Q_S0, Q_Z8, Q_G1, Q_S1, Q_BZ, Q_BW, Q_X8_, Q_X13_⟩ hb_ hon hoff
      refine ⟨_, rfl, fun K hK => ?_⟩
      have e22 : a.tmps[22]? = some (.pointer (some ⟨gb, 1, none⟩)) := by rw [ha]; exact (putSel_off rfl).trans rfl
      replace ha := Aside0.mk ha
      have HD := Aside0.mk Q_HD
      have KP := Aside0.mk Q_KP
      have G0 := Aside0.mk (Q_G0 (hoff 9 (by kernel_rfl)))
      have S0 := Aside0.mk (Q_S0 (hoff 9 (by kernel_rfl)))
      have hc0_ : w'.cell? ⟨gb, 1, none⟩ = some (.int .i64 (ix : Int)) := (blk_cell G0.out 1).trans rfl
      have hc1_ : w'.cell? ⟨gb, 2, none⟩ = some (.int .i64 s) := (blk_cell G0.out 2).trans rfl
      have hc2_ : w'.cell? ⟨gb, 3, none⟩ = some (.int .i64 n) := (blk_cell G0.out 3).trans rfl
      have hc3_ : w'.cell? ⟨gb, 4, none⟩ = some (.int .i64 c) := (blk_cell G0.out 4).trans rfl
      refine value_ (w1 := w') (v := .agg #[.int .i64 (ix : Int), .int .i64 s, .int .i64 n, .int .i64 c]) (by rfl) rfl ?_ ?_
      · go_simp
        (try simp only [i64_w])
        try rfl
      refine hK.out _ _ ⟨A8_, c8_, A9_, c9_, g13_, m8_, m13_, (by rw [ha.out]; exact putSel_upk 0 hb_ rfl rfl rfl), Q_HD, Q_KP, Q_G0, Q_S0, Q_Z8, fun h0_ => absurd ((hoff 9 (by kernel_rfl)).symm.trans h0_) (by decide), fun h0_ => absurd ((hoff 9 (by kernel_rfl)).symm.trans h0_) (by decide), Q_BZ, fun _ h1_ => absurd ((hoff 14 (by kernel_rfl)).symm.trans h1_) (by decide), Q_X8_, Q_X13_⟩
    refine steps_cons ?_ ?_
    · rintro b a w' ⟨A8_, c8_, A9_, c9_, g13_, m8_, m13_, ha, Q_HD, Q_KP, Q_G0, Q_S0, Q_Z8, Q_G1, Q_S1, Q_BZ, Q_BW, Q_X8_, Q_X13_⟩ hb_ hon hoff
      refine ⟨_, rfl, fun K hK => ?_⟩
      have e24 : a.tmps[24]? = some (.int .i64 N) := by rw [ha]; exact (putSel_off rfl).trans rfl
      replace ha := Aside0.mk ha
      have HD := Aside0.mk Q_HD
      have KP := Aside0.mk Q_KP
      have G0 := Aside0.mk (Q_G0 (hoff 9 (by kernel_rfl)))
      have S0 := Aside0.mk (Q_S0 (hoff 9 (by kernel_rfl)))
      refine Kd.R_make_step (Kd.int .u8) _ 5 (by rfl) (N := 25) rfl 29 _ _ rfl N (by first | rfl | (simp [Act.eval, e24]; done)) (by first | rfl | (simp [Act.eval, e24]; done)) Try.underlying29 (.int .u8 0) 1 info5 rfl (by decide) (by omega) 0 (ok := fun _ => True) (okp := fun _ => True) rfl (fun _ hk => hk) trivial hN (by omega) (Below.refl _ _) (Nat.le_refl _) ?_
      intro v8 wn8 ho8 hb hg_ hnew_
      clear hg_ hnew_
      rw [← HZ.out] at ho8
      obtain ⟨A8n, c8n, rfl⟩ := Kd.R_slice ho8
      refine hK.out _ _ ⟨A8n, c8n, A9_, c9_, g13_, (.slice A8n z.length c8n), m13_, (by rw [ha.out]; exact putSel_upk 1 hb_ rfl rfl rfl), Below.trans HD.out (Below.mono hb (Nat.le_trans HBW.out HD.out.size)), Keep.trans KP.out (Keep.below hb), fun _ => blk_below G0.out hb, fun _ => Kd.S_below S0.out hb, fun _ _ => Kd.R_lower ho8 HD.out.size, fun h0_ => absurd ((hoff 9 (by kernel_rfl)).symm.trans h0_) (by decide), fun h0_ => absurd ((hoff 9 (by kernel_rfl)).symm.trans h0_) (by decide), fun h0_ h1_ => ⟨(Q_BZ h0_ h1_).1, blk_below (Q_BZ h0_ h1_).2 hb⟩, fun _ h1_ => absurd ((hoff 14 (by kernel_rfl)).symm.trans h1_) (by decide), fun _ => rfl, Q_X13_⟩
    refine steps_cons ?_ ?_
    · rintro b a w' ⟨A8_, c8_, A9_, c9_, g13_, m8_, m13_, ha, Q_HD, Q_KP, Q_G0, Q_S0, Q_Z8, Q_G1, Q_S1, Q_BZ, Q_BW, Q_X8_, Q_X13_⟩ hb_ hon hoff
      refine ⟨_, rfl, fun K hK => ?_⟩
      have e19 : a.tmps[19]? = some (.pointer (some ⟨gb, 0, none⟩)) := by rw [ha]; exact (putSel_off rfl).trans rfl
      have e23 : a.tmps[23]? = some (.agg #[.int .i64 (ix : Int), .int .i64 s, .int .i64 n, .int .i64 c]) := by rw [ha]; exact putSel_on (e := (6, 23, .agg #[.int .i64 (ix : Int), .int .i64 s, .int .i64 n, .int .i64 c])) 0 rfl rfl (hon 6 (by kernel_rfl)) rfl
      have e25 : a.tmps[25]? = some (m8_) := by rw [ha]; exact putSel_on (e := (8, 25, m8_)) 1 rfl rfl (hon 8 (by kernel_rfl)) rfl
      rw [Q_X8_ (hon 8 (by kernel_rfl))] at e25
      replace ha := Aside0.mk ha
      have HD := Aside0.mk Q_HD
      have KP := Aside0.mk Q_KP
      have G0 := Aside0.mk (Q_G0 hb_)
      have S0 := Aside0.mk (Q_S0 hb_)
      have Z8 := Aside0.mk (Q_Z8 (hon 8 (by kernel_rfl)) hb_)
      refine goes_ Try.func189 (by kernel_rfl) rfl #[.pointer (some ⟨gb, 0, none⟩), .agg #[.int .i64 (ix : Int), .int .i64 s, .int .i64 n, .int .i64 c], .slice A8_ z.length c8_] (by rfl) rfl rfl (by first | (simp only [List.map_toArray, List.map_cons, List.map_nil, Act.eval, Array.getD_eq_getD_getElem?, Option.getD_some, e19, e23, e25]; done) | (simp only [List.map_toArray, List.map_cons, List.map_nil, Act.eval, Array.getD_eq_getD_getElem?, Option.getD_some, e19, e23, e25]; rfl)) ?_
      refine (appended_at gb 0 #[.slice A m.length mc, .int .i64 (ix : Int), .int .i64 s, .int .i64 n, .int .i64 c, .int .i64 fr, .int .i64 tt] 34 A mc m ix s n c A8_ c8_ z HP.out base ok w' G0.out rfl S0.out (Kd.R_reads' Z8.out).2.2 hzl8.out h2 h3 h9 hix h4 h5 h6 hm (by decide) (by decide) (Nat.le_trans HBW.out HD.out.size) hbG (fun k hk => hok k (Nat.le_trans HZ0.out (Nat.le_trans HD.out.size hk)))).mono ?_
      rintro e wn9 ⟨rfl, A9n, c9n, hb9, hS9, hB9, hK9⟩
      refine ⟨_, rfl, ?_⟩
      refine hK.out _ _ ⟨A8_, c8_, A9n, c9n, g13_, m8_, m13_, (by rw [ha.out]; exact putSel_upk 2 hb_ rfl rfl rfl), Below.trans HD.out hB9, Keep.trans KP.out hK9, fun h0_ => absurd ((up_self b 9).symm.trans h0_) (by decide), fun h0_ => absurd ((up_self b 9).symm.trans h0_) (by decide), fun _ h1_ => absurd ((up_self b 9).symm.trans h1_) (by decide), fun _ => hb9, fun _ => hS9, fun h0_ h1_ => ⟨(Q_BZ h0_ h1_).1, hK9 _ _ _ (Q_BZ h0_ h1_).2 (Nat.ne_of_gt (Nat.lt_of_lt_of_le HGW.out (Q_BZ h0_ h1_).1)) (by decide) (by decide)⟩, fun _ h1_ => absurd ((hoff 14 (by kernel_rfl)).symm.trans h1_) (by decide), Q_X8_, Q_X13_⟩
    refine steps_cons ?_ ?_
    · rintro b a w' ⟨A8_, c8_, A9_, c9_, g13_, m8_, m13_, ha, Q_HD, Q_KP, Q_G0, Q_S0, Q_Z8, Q_G1, Q_S1, Q_BZ, Q_BW, Q_X8_, Q_X13_⟩ hb_ hon hoff
      refine ⟨_, rfl, fun K hK => ?_⟩
      have e26 : a.tmps[26]? = some (.tuple #[.agg #[.int .i64 a', .int .i64 s', .int .i64 n', .int .i64 c'], .bool false]) := by rw [ha]; exact putSel_on (e := (9, 26, .tuple #[.agg #[.int .i64 a', .int .i64 s', .int .i64 n', .int .i64 c'], .bool false])) 2 rfl rfl (hon 9 (by kernel_rfl)) rfl
      replace ha := Aside0.mk ha
      have HD := Aside0.mk Q_HD
      have KP := Aside0.mk Q_KP
      have G1 := Aside0.mk (Q_G1 (hon 9 (by kernel_rfl)))
      have S1 := Aside0.mk (Q_S1 (hon 9 (by kernel_rfl)))
      refine value_ (w1 := w') (v := .tuple #[.agg #[.int .i64 a', .int .i64 s', .int .i64 n', .int .i64 c'], .bool false]) (by rfl) rfl ?_ ?_
      · go_simp
        (try simp only [i64_w])
        try rfl
      refine hK.out _ _ ⟨A8_, c8_, A9_, c9_, g13_, m8_, m13_, (by rw [ha.out]; exact putSel_upk 3 hb_ rfl rfl rfl), Q_HD, Q_KP, fun h0_ => absurd ((hon 9 (by kernel_rfl)).symm.trans h0_) (by decide), fun h0_ => absurd ((hon 9 (by kernel_rfl)).symm.trans h0_) (by decide), fun _ h1_ => absurd ((hon 9 (by kernel_rfl)).symm.trans h1_) (by decide), Q_G1, Q_S1, Q_BZ, fun _ h1_ => absurd ((hoff 14 (by kernel_rfl)).symm.trans h1_) (by decide), Q_X8_, Q_X13_⟩
    refine steps_cons ?_ ?_
    · rintro b a w' ⟨A8_, c8_, A9_, c9_, g13_, m8_, m13_, ha, Q_HD, Q_KP, Q_G0, Q_S0, Q_Z8, Q_G1, Q_S1, Q_BZ, Q_BW, Q_X8_, Q_X13_⟩ hb_ hon hoff
      refine ⟨_, rfl, fun K hK => ?_⟩
      have e16 : a.tmps[16]? = some (.tuple #[.agg #[.int .i64 a', .int .i64 s', .int .i64 n', .int .i64 c'], .bool false]) := by rw [ha]; exact putSel_on (e := (10, 16, .tuple #[.agg #[.int .i64 a', .int .i64 s', .int .i64 n', .int .i64 c'], .bool false])) 3 rfl rfl (hon 10 (by kernel_rfl)) rfl
      replace ha := Aside0.mk ha
      have HD := Aside0.mk Q_HD
      have KP := Aside0.mk Q_KP
      have G1 := Aside0.mk (Q_G1 (hon 9 (by kernel_rfl)))
      have S1 := Aside0.mk (Q_S1 (hon 9 (by kernel_rfl)))
      refine value_ (w1 := w') (v := .agg #[.int .i64 a', .int .i64 s', .int .i64 n', .int .i64 c']) (by rfl) rfl ?_ ?_
      · go_simp
        (try simp only [i64_w])
        try rfl
      refine hK.out _ _ ⟨A8_, c8_, A9_, c9_, g13_, m8_, m13_, (by rw [ha.out]; exact putSel_upk 4 hb_ rfl rfl rfl), Q_HD, Q_KP, fun h0_ => absurd ((hon 9 (by kernel_rfl)).symm.trans h0_) (by decide), fun h0_ => absurd ((hon 9 (by kernel_rfl)).symm.trans h0_) (by decide), fun _ h1_ => absurd ((hon 9 (by kernel_rfl)).symm.trans h1_) (by decide), Q_G1, Q_S1, Q_BZ, fun _ h1_ => absurd ((hoff 14 (by kernel_rfl)).symm.trans h1_) (by decide), Q_X8_, Q_X13_⟩
    refine steps_cons ?_ ?_
    · rintro b a w' ⟨A8_, c8_, A9_, c9_, g13_, m8_, m13_, ha, Q_HD, Q_KP, Q_G0, Q_S0, Q_Z8, Q_G1, Q_S1, Q_BZ, Q_BW, Q_X8_, Q_X13_⟩ hb_ hon hoff
      refine ⟨_, rfl, fun K hK => ?_⟩
      have e16 : a.tmps[16]? = some (.tuple #[.agg #[.int .i64 a', .int .i64 s', .int .i64 n', .int .i64 c'], .bool false]) := by rw [ha]; exact putSel_on (e := (10, 16, .tuple #[.agg #[.int .i64 a', .int .i64 s', .int .i64 n', .int .i64 c'], .bool false])) 3 rfl rfl (hon 10 (by kernel_rfl)) rfl
      replace ha := Aside0.mk ha
      have HD := Aside0.mk Q_HD
      have KP := Aside0.mk Q_KP
      have G1 := Aside0.mk (Q_G1 (hon 9 (by kernel_rfl)))
      have S1 := Aside0.mk (Q_S1 (hon 9 (by kernel_rfl)))
      refine value_ (w1 := w') (v := .bool false) (by rfl) rfl ?_ ?_
      · go_simp
        (try simp only [i64_w])
        try rfl
      refine hK.out _ _ ⟨A8_, c8_, A9_, c9_, g13_, m8_, m13_, (by rw [ha.out]; exact putSel_upk 5 hb_ rfl rfl rfl), Q_HD, Q_KP, fun h0_ => absurd ((hon 9 (by kernel_rfl)).symm.trans h0_) (by decide), fun h0_ => absurd ((hon 9 (by kernel_rfl)).symm.trans h0_) (by decide), fun _ h1_ => absurd ((hon 9 (by kernel_rfl)).symm.trans h1_) (by decide), Q_G1, Q_S1, Q_BZ, Q_BW, Q_X8_, Q_X13_⟩
    refine steps_cons ?_ ?_
    · rintro b a w' ⟨A8_, c8_, A9_, c9_, g13_, m8_, m13_, ha, Q_HD, Q_KP, Q_G0, Q_S0, Q_Z8, Q_G1, Q_S1, Q_BZ, Q_BW, Q_X8_, Q_X13_⟩ hb_ hon hoff
      refine ⟨_, rfl, fun K hK => ?_⟩
      replace ha := Aside0.mk ha
      have HD := Aside0.mk Q_HD
      have KP := Aside0.mk Q_KP
      refine box_step ?hg (N := 6) ?hd (cs := #[.int .i64 0, .int .i64 0, .int .i64 0, .int .i64 0]) (t := 32) ?hr ?_; (case hd => rfl); (case hg => rfl); (case hr => first | (go_simp; done) | (go_simp; rfl))
      intro g13n hg wn13 hbox hb
      refine hK.out _ _ ⟨A8_, c8_, A9_, c9_, g13n, m8_, (.pointer (some ⟨g13n, 0, none⟩)), (by rw [ha.out]; exact putSel_upk 6 hb_ rfl rfl rfl), Below.trans HD.out (Below.mono hb (Nat.le_trans HBW.out HD.out.size)), Keep.trans KP.out (Keep.below hb), fun h0_ => blk_below (Q_G0 h0_) hb, fun h0_ => Kd.S_below (Q_S0 h0_) hb, fun h0_ h1_ => Kd.R_below (Q_Z8 h0_ h1_) hb, fun h0_ => blk_below (Q_G1 h0_) hb, fun h0_ => Kd.S_below (Q_S1 h0_) hb, fun _ _ => ⟨(by rw [hg]; exact HD.out.size), hbox⟩, fun _ h1_ => absurd ((hoff 14 (by kernel_rfl)).symm.trans h1_) (by decide), Q_X8_, fun _ => rfl⟩
    refine steps_cons ?_ ?_
    · rintro b a w' ⟨A8_, c8_, A9_, c9_, g13_, m8_, m13_, ha, Q_HD, Q_KP, Q_G0, Q_S0, Q_Z8, Q_G1, Q_S1, Q_BZ, Q_BW, Q_X8_, Q_X13_⟩ hb_ hon hoff
      refine ⟨_, rfl, fun K hK => ?_⟩
      have e6 : a.tmps[6]? = some (m13_) := by rw [ha]; exact putSel_on (e := (13, 6, m13_)) 6 rfl rfl (hon 13 (by kernel_rfl)) rfl
      rw [Q_X13_ (hon 13 (by kernel_rfl))] at e6
      have e27 : a.tmps[27]? = some (.agg #[.int .i64 a', .int .i64 s', .int .i64 n', .int .i64 c']) := by rw [ha]; exact putSel_on (e := (11, 27, .agg #[.int .i64 a', .int .i64 s', .int .i64 n', .int .i64 c'])) 4 rfl rfl (hon 11 (by kernel_rfl)) rfl
      replace ha := Aside0.mk ha
      have HD := Aside0.mk Q_HD
      have KP := Aside0.mk Q_KP
      have G1 := Aside0.mk (Q_G1 (hon 9 (by kernel_rfl)))
      have S1 := Aside0.mk (Q_S1 (hon 9 (by kernel_rfl)))
      have BZ := Aside0.mk (Q_BZ (hon 13 (by kernel_rfl)) hb_)
      have BZ2 := Aside0.mk BZ.out.2
      obtain ⟨qc0, qc1, qc2, qc3, qf0, qf1, qf2, qf3⟩ := zc4 BZ2
      have hl_ := blk_lt BZ2.out
      refine skip_ (w1 := ?_) (by rfl) rfl ?_ ?_
      rotate_left
      · go_simp
        rfl
      have hnew_ := puts4 BZ2.out (.int .i64 a') (.int .i64 s') (.int .i64 n') (.int .i64 c')
      have hg_ := grows4 w' g13_ (.int .i64 a') (.int .i64 s') (.int .i64 n') (.int .i64 c')
      generalize (World.setCell (World.setCell (World.setCell (World.setCell w' ⟨g13_, 0, none⟩ (.int .i64 a')) ⟨g13_, 1, none⟩ (.int .i64 s')) ⟨g13_, 2, none⟩ (.int .i64 n')) ⟨g13_, 3, none⟩ (.int .i64 c')) = wn14 at hnew_ hg_ ⊢
      refine hK.out _ _ ⟨A8_, c8_, A9_, c9_, g13_, m8_, m13_, (by rw [ha.out]; exact putSel_none (v := undef) rfl), Below.trans HD.out (below_of_grown (Below.refl base _) hg_ (Nat.le_trans HBW.out BZ.out.1) (Nat.le_trans HBW.out HD.out.size)), Keep.new KP.out hg_ BZ.out.1, fun h0_ => absurd ((hon 9 (by kernel_rfl)).symm.trans h0_) (by decide), fun h0_ => absurd ((hon 9 (by kernel_rfl)).symm.trans h0_) (by decide), fun _ h1_ => absurd ((hon 9 (by kernel_rfl)).symm.trans h1_) (by decide), fun _ => blk_grown G1.out hg_ (fun e_ => Nat.ne_of_lt (Nat.lt_of_lt_of_le HGW.out BZ.out.1) (Option.some.inj e_)), fun _ => Kd.S_mono (Kd.S_grown (Kd.S_types S1.out BZ.out.2 (by decide)) hg_ (fun k_ hk_ e_ => hk_.2 (Option.some.inj e_))) (fun _ h_ => h_.1), fun _ h1_ => absurd ((up_self b 14).symm.trans h1_) (by decide), fun _ _ => ⟨BZ.out.1, hnew_⟩, Q_X8_, Q_X13_⟩
    refine steps_cons ?_ ?_
    · rintro b a w' ⟨A8_, c8_, A9_, c9_, g13_, m8_, m13_, ha, Q_HD, Q_KP, Q_G0, Q_S0, Q_Z8, Q_G1, Q_S1, Q_BZ, Q_BW, Q_X8_, Q_X13_⟩ hb_ hon hoff
      refine ⟨_, rfl, fun K hK => ?_⟩
      have e28 : a.tmps[28]? = some (.bool false) := by rw [ha]; exact putSel_on (e := (12, 28, .bool false)) 5 rfl rfl (hon 12 (by kernel_rfl)) rfl
      replace ha := Aside0.mk ha
      have HD := Aside0.mk Q_HD
      have KP := Aside0.mk Q_KP
      have G1 := Aside0.mk (Q_G1 (hon 9 (by kernel_rfl)))
      have S1 := Aside0.mk (Q_S1 (hon 9 (by kernel_rfl)))
      have BW := Aside0.mk (Q_BW (hon 13 (by kernel_rfl)) (hon 14 (by kernel_rfl)))
      refine value_ (w1 := w') (v := .bool false) (by rfl) rfl ?_ ?_
      · go_simp
        (try simp only [i64_w])
        try rfl
      refine hK.out _ _ ⟨A8_, c8_, A9_, c9_, g13_, m8_, m13_, (by rw [ha.out]; exact putSel_upk 7 hb_ rfl rfl rfl), Q_HD, Q_KP, fun h0_ => absurd ((hon 9 (by kernel_rfl)).symm.trans h0_) (by decide), fun h0_ => absurd ((hon 9 (by kernel_rfl)).symm.trans h0_) (by decide), fun _ h1_ => absurd ((hon 9 (by kernel_rfl)).symm.trans h1_) (by decide), Q_G1, Q_S1, fun _ h1_ => absurd ((hon 14 (by kernel_rfl)).symm.trans h1_) (by decide), Q_BW, Q_X8_, Q_X13_⟩
    exact steps_nil
  rintro b a w4 hall ⟨A8_, c8_, A9_, c9_, g13_, m8_, m13_, ha, Q_HD, Q_KP, Q_G0, Q_S0, Q_Z8, Q_G1, Q_S1, Q_BZ, Q_BW, Q_X8_, Q_X13_⟩
  clear G0 HD KP S0
  have hb6_ := hall 6 (by kernel_rfl)
  have hb8_ := hall 8 (by kernel_rfl)
  have hb9_ := hall 9 (by kernel_rfl)
  have hb10_ := hall 10 (by kernel_rfl)
  have hb11_ := hall 11 (by kernel_rfl)
  have hb12_ := hall 12 (by kernel_rfl)
  have hb13_ := hall 13 (by kernel_rfl)
  have hb14_ := hall 14 (by kernel_rfl)
  have hb15_ := hall 15 (by kernel_rfl)
  subst ha
  obtain rfl := Q_X8_ hb8_
  obtain rfl := Q_X13_ hb13_
  simp only [putSel, hb6_, hb8_, hb9_, hb10_, hb11_, hb12_, hb13_, hb14_, hb15_, if_true, Act.put, List.setIfInBounds_toArray, List.set_cons_zero, List.set_cons_succ]
  have HD := Aside0.mk Q_HD
  clear Q_HD
  have KP := Aside0.mk Q_KP
  clear Q_KP
  clear Q_G0
  clear Q_S0
  clear Q_Z8
  have G1 := Aside0.mk (Q_G1 hb9_)
  clear Q_G1
  have S1 := Aside0.mk (Q_S1 hb9_)
  clear Q_S1
  clear Q_BZ
  have BW := Aside0.mk (Q_BW hb13_ hb14_)
  clear Q_BW
  clear hall hb6_ hb8_ hb9_ hb10_ hb11_ hb12_ hb13_ hb14_ hb15_
  replace HB0 := Aside0.mk (Below.trans HB0.out HD.out)
  replace HK0 := Aside0.mk (Keep.trans HK0.out KP.out)
  have HW := Aside0.mk (Nat.le_trans HZ0.out HD.out.size)
  have BW2 := Aside0.mk BW.out.2
  have N13 := Aside0.mk (Nat.le_trans HZ0.out BW.out.1)
  clear HD KP BW HBW HGW HZ0
  go_wp2_with fail
  go_ret
  exact ⟨rfl, A9_, c9_, G1.out, S1.out, HB0.out, HK0.out⟩

set_option maxHeartbeats 4000000 in
set_option maxRecDepth 100000 in
theorem widen_done {M : List (List Int)} {a' s' n' c' : Int} (gb mc : Nat) (A : Option Addr) (m : List (List Int)) (ix : Nat) (s n c fr tt N : Int) (base : Nat) (ok : Nat → Prop) (w : World) (hb : w.heap[gb]? = some (.cells #[.slice A m.length mc, .int .i64 (ix : Int), .int .i64 s, .int .i64 n, .int .i64 c, .int .i64 fr, .int .i64 tt] 34 (0, 0)))
    (hS : Kd.S (Kd.slice 5 (Kd.int .u8)) 29 w base ok (.slice A m.length mc) m) (h2 : 0 ≤ s) (h3 : 0 ≤ n) (h9 : n ≤ c) (hix : ix < m.length) (h4 : s + c ≤ (m[ix].length : Int)) (h5 : m[ix].length ≤ 64) (h6 : 0 < m[ix].length) (hm : m.length ≤ 16) (ht1 : 0 ≤ tt) (ht2 : tt ≤ n) (hN : 0 ≤ N) (hbase : base ≤ w.heap.size) (hbG : base ≤ gb) (hok : ∀ k, w.heap.size ≤ k → ok k) (z : List Int) (hz : z = List.replicate N.toNat 0) (hN2 : N ≤ 64) (hP : appP m ix s n c z = (M, a', s', n', c', true)) :
    Calls Try.prog 147 #[.pointer (some ⟨gb, 0, none⟩), .int .i64 N] w fun e w' => e = .returned (.bool true) ∧ ∃ A' cc, w'.heap[gb]? = some (.cells #[.slice A' M.length cc, .int .i64 a', .int .i64 s', .int .i64 n', .int .i64 c', .int .i64 fr, .int .i64 (tt + N)] 34 (0, 0)) ∧ Kd.S (Kd.slice 5 (Kd.int .u8)) 29 w' base ok (.slice A' M.length cc) (M.set a'.toNat (over_ (M.getD a'.toNat []) (s' + (tt + N)).toNat (((M.getD a'.toNat []).drop (s' + tt).toNat).take (n - tt).toNat))) ∧ Below base w w' ∧ Keep w w' gb := by
  have hgl := blk_lt hb
  have HG := Aside0.mk hgl
  have BKg := Aside0.mk hb
  have HS := Aside0.mk hS
  have hzl : z.length = N.toNat := by rw [hz, List.length_replicate]
  have HZ := Aside0.mk hz
  obtain ⟨jx, rfl, hj, hM16, k2, kn, k4, k5, k6, k7⟩ := appP_ok hP h2 h3 h9 hix h4 h5 h6 hm
  have hzl8 : z.length ≤ 281474976710656 := by omega
  replace hzl8 := Aside0.mk hzl8
  replace hzl := Aside0.mk hzl
  replace kn := Aside0.mk kn
  have HP := Aside0.mk hP
  have hd : decide (64 < N) = false := decide_eq_false (by omega)
  have hd2 : (64 < N) = False := eq_false (by omega)
  clear hb hS hz hP
  obtain ⟨pc0, pc1, pc2, pc3, pc4, pc5, pc6, pf0, pf1, pf2, pf3, pf4, pf5, pf6⟩ := zc7 BKg
  go_enter Try.func147, Try.ntmps147
  go_wp2_with fail
  clear pc0 pc1 pc2 pc3 pc4 pc5 pc6 pf0 pf1 pf2 pf3 pf4 pf5 pf6 hd hd2
  refine start_ (n := 16) (S := fun w' => True) (ds := []) #[false, false, false, false, false, false, false, false, false, false, false, false, false, false, false, false] (by kernel_rfl) rfl rfl trivial (fun hHeld => ?_)
  refine with_tabW widen.tab4 widen.bits4 (fun HT_ HW_ => ?_)
  clear hHeld
  have G0 := Aside0.mk (blk_drew BKg.out)
  have S0 := Aside0.mk (Kd.S_drew HS.out)
  have HZ0 := Aside0.mk (show w.heap.size ≤ w.drew.heap.size from Nat.le_refl _)
  have HB0 := Aside0.mk (below_drew1 (Below.refl base w))
  have HK0 := Aside0.mk (show Keep w w.drew gb from fun k c t h _ _ _ => blk_drew h)
  clear BKg HS
  generalize w.drew = wd at G0 S0 HZ0 HB0 HK0 ⊢
  have HBW := Aside0.mk (Nat.le_trans hbase HZ0.out)
  have HGW := Aside0.mk (Nat.lt_of_lt_of_le HG.out HZ0.out)
  have HD := Aside0.mk (Below.refl base wd)
  have KP := Aside0.mk (show Keep wd wd gb from fun k c t h _ _ _ => h)
  refine pure_ (i := 0) (N := some 17) (v := ?_) (a' := ?_) #[true, false, false, false, false, false, false, false, false, false, false, false, false, false, false, false] rfl rfl (by kernel_rfl) (fun _ _ _ h => h) (Or.inl ⟨by rfl, ?_⟩) ?_ ?_
  rotate_left
  · intro w'
    go_simp
    with_reducible rfl
  rotate_left
  · simp only [Act.put, List.setIfInBounds_toArray, List.set_cons_zero, List.set_cons_succ, i64_w, i32_w]
    rfl
  refine pure_ (i := 1) (N := some 18) (v := ?_) (a' := ?_) #[true, true, false, false, false, false, false, false, false, false, false, false, false, false, false, false] rfl rfl (by kernel_rfl) (fun _ _ _ h => h) (Or.inl ⟨by rfl, ?_⟩) ?_ ?_
  rotate_left
  · intro w'
    go_simp
    with_reducible rfl
  rotate_left
  · simp only [Act.put, List.setIfInBounds_toArray, List.set_cons_zero, List.set_cons_succ, i64_w, i32_w]
    rfl
  refine pure_ (i := 2) (N := some 19) (v := ?_) (a' := ?_) #[true, true, true, false, false, false, false, false, false, false, false, false, false, false, false, false] rfl rfl (by kernel_rfl) (fun _ _ _ h => h) (Or.inl ⟨by rfl, ?_⟩) ?_ ?_
  rotate_left
  · intro w'
    go_simp
    with_reducible rfl
  rotate_left
  · simp only [Act.put, List.setIfInBounds_toArray, List.set_cons_zero, List.set_cons_succ, i64_w, i32_w]
    rfl
  refine pure_ (i := 3) (N := some 20) (v := ?_) (a' := ?_) #[true, true, true, true, false, false, false, false, false, false, false, false, false, false, false, false] rfl rfl (by kernel_rfl) (fun _ _ _ h => h) (Or.inl ⟨by rfl, ?_⟩) ?_ ?_
  rotate_left
  · intro w'
    go_simp
    with_reducible rfl
  rotate_left
  · simp only [Act.put, List.setIfInBounds_toArray, List.set_cons_zero, List.set_cons_succ, i64_w, i32_w]
    rfl
  refine pure_ (i := 4) (N := some 21) (v := ?_) (a' := ?_) #[true, true, true, true, true, false, false, false, false, false, false, false, false, false, false, false] rfl rfl (by kernel_rfl) (fun _ _ _ h => h) (Or.inl ⟨by rfl, ?_⟩) ?_ ?_
  rotate_left
  · intro w'
    go_simp
    with_reducible rfl
  rotate_left
  · simp only [Act.put, List.setIfInBounds_toArray, List.set_cons_zero, List.set_cons_succ, i64_w, i32_w]
    rfl
  refine pure_ (i := 5) (N := some 22) (v := ?_) (a' := ?_) #[true, true, true, true, true, true, false, false, false, false, false, false, false, false, false, false] rfl rfl (by kernel_rfl) (fun _ _ _ h => h) (Or.inl ⟨by rfl, ?_⟩) ?_ ?_
  rotate_left
  · intro w'
    go_simp
    with_reducible rfl
  rotate_left
  · simp only [Act.put, List.setIfInBounds_toArray, List.set_cons_zero, List.set_cons_succ, i64_w, i32_w]
    rfl
  refine pure_ (i := 7) (N := some 24) (v := ?_) (a' := ?_) #[true, true, true, true, true, true, false, true, false, false, false, false, false, false, false, false] rfl rfl (by kernel_rfl) (fun _ _ _ h => h) (Or.inl ⟨by rfl, ?_⟩) ?_ ?_
  rotate_left
  · intro w'
    go_simp
    with_reducible rfl
  rotate_left
  · simp only [Act.put, List.setIfInBounds_toArray, List.set_cons_zero, List.set_cons_succ, i64_w, i32_w]
    rfl
  refine inv_at [6, 8, 9, 10, 11, 12, 13, 14, 15] (fun a0_ b a w' => ∃ (A8_ : Option Addr) (c8_ : Nat) (A9_ : Option Addr) (c9_ : Nat) (g13_ : Nat) (m8_ : Value) (m13_ : Value), a = putSel a0_ b [(6, 23, .agg #[.int .i64 (ix : Int), .int .i64 s, .int .i64 n, .int .i64 c]), (8, 25, m8_), (9, 26, .tuple #[.agg #[.int .i64 (jx : Int), .int .i64 s', .int .i64 n', .int .i64 c'], .bool true]), (10, 16, .tuple #[.agg #[.int .i64 (jx : Int), .int .i64 s', .int .i64 n', .int .i64 c'], .bool true]), (11, 27, .agg #[.int .i64 (jx : Int), .int .i64 s', .int .i64 n', .int .i64 c']), (12, 28, .bool true), (13, 6, m13_), (15, 7, .bool true)] ∧ (Below base wd w') ∧ (Keep wd w' gb) ∧ (b 9 = false → w'.heap[gb]? = some (.cells #[.slice A m.length mc, .int .i64 (ix : Int), .int .i64 s, .int .i64 n, .int .i64 c, .int .i64 fr, .int .i64 tt] 34 (0, 0))) ∧ (b 9 = false → Kd.S (Kd.slice 5 (Kd.int .u8)) 29 w' base ok (.slice A m.length mc) m) ∧ (b 8 = true → b 9 = false → Kd.R (Kd.int .u8) 5 w' wd.heap.size (fun _ => True) (.slice A8_ z.length c8_) z) ∧ (b 9 = true → w'.heap[gb]? = some (.cells #[.slice A9_ M.length c9_, .int .i64 (ix : Int), .int .i64 s, .int .i64 n, .int .i64 c, .int .i64 fr, .int .i64 tt] 34 (0, 0))) ∧ (b 9 = true → Kd.S (Kd.slice 5 (Kd.int .u8)) 29 w' base ok (.slice A9_ M.length c9_) M) ∧ (b 13 = true → b 14 = false → wd.heap.size ≤ g13_ ∧ w'.heap[g13_]? = some (.cells #[.int .i64 0, .int .i64 0, .int .i64 0, .int .i64 0] 32 (0, 0))) ∧ (b 13 = true → b 14 = true → wd.heap.size ≤ g13_ ∧ w'.heap[g13_]? = some (.cells #[.int .i64 (jx : Int), .int .i64 s', .int .i64 n', .int .i64 c'] 32 (0, 0))) ∧ (b 8 = true → (m8_ : Value) = .slice A8_ z.length c8_) ∧ (b 13 = true → (m13_ : Value) = .pointer (some ⟨g13_, 0, none⟩))) HT_.out HW_.out (by kernel_rfl) (by kernel_rfl) ?_ ?_ ?_
  · exact ⟨none, 0, none, 0, 0, .bool false, .bool false, by simp only [putSel, Bool.false_eq_true, if_false], HD.out, KP.out, fun _ => G0.out, fun _ => S0.out, fun h_ => absurd h_ (by decide), fun h_ => absurd h_ (by decide), fun h_ => absurd h_ (by decide), fun h_ => absurd h_ (by decide), fun h_ => absurd h_ (by decide), fun h_ => absurd h_ (by decide), fun h_ => absurd h_ (by decide)⟩
  · skip
    clear G0 HD KP S0
    refine steps_cons ?_ ?_
    · rintro b a w' ⟨A8_, c8_, A9_, c9_, g13_, m8_, m13_, ha, Q_HD, Q_KP, Q_G0, Q_S0, Q_Z8, Q_G1, Q_S1, Q_BZ, Q_BW, Q_X8_, Q_X13_⟩ hb_ hon hoff
      refine ⟨_, rfl, fun K hK => ?_⟩
      have e22 : a.tmps[22]? = some (.pointer (some ⟨gb, 1, none⟩)) := by rw [ha]; exact (putSel_off rfl).trans rfl
      replace ha := Aside0.mk ha
      have HD := Aside0.mk Q_HD
      have KP := Aside0.mk Q_KP
      have G0 := Aside0.mk (Q_G0 (hoff 9 (by kernel_rfl)))
      have S0 := Aside0.mk (Q_S0 (hoff 9 (by kernel_rfl)))
      have hc0_ : w'.cell? ⟨gb, 1, none⟩ = some (.int .i64 (ix : Int)) := (blk_cell G0.out 1).trans rfl
      have hc1_ : w'.cell? ⟨gb, 2, none⟩ = some (.int .i64 s) := (blk_cell G0.out 2).trans rfl
      have hc2_ : w'.cell? ⟨gb, 3, none⟩ = some (.int .i64 n) := (blk_cell G0.out 3).trans rfl
      have hc3_ : w'.cell? ⟨gb, 4, none⟩ = some (.int .i64 c) := (blk_cell G0.out 4).trans rfl
      refine value_ (w1 := w') (v := .agg #[.int .i64 (ix : Int), .int .i64 s, .int .i64 n, .int .i64 c]) (by rfl) rfl ?_ ?_
      · go_simp
        (try simp only [i64_w])
        try rfl
      refine hK.out _ _ ⟨A8_, c8_, A9_, c9_, g13_, m8_, m13_, (by rw [ha.out]; exact putSel_upk 0 hb_ rfl rfl rfl), Q_HD, Q_KP, Q_G0, Q_S0, Q_Z8, fun h0_ => absurd ((hoff 9 (by kernel_rfl)).symm.trans h0_) (by decide), fun h0_ => absurd ((hoff 9 (by kernel_rfl)).symm.trans h0_) (by decide), Q_BZ, fun _ h1_ => absurd ((hoff 14 (by kernel_rfl)).symm.trans h1_) (by decide), Q_X8_, Q_X13_⟩
    refine steps_cons ?_ ?_
    · rintro b a w' ⟨A8_, c8_, A9_, c9_, g13_, m8_, m13_, ha, Q_HD, Q_KP, Q_G0, Q_S0, Q_Z8, Q_G1, Q_S1, Q_BZ, Q_BW, Q_X8_, Q_X13_⟩ hb_ hon hoff
      refine ⟨_, rfl, fun K hK => ?_⟩
      have e24 : a.tmps[24]? = some (.int .i64 N) := by rw [ha]; exact (putSel_off rfl).trans rfl
      replace ha := Aside0.mk ha
      have HD := Aside0.mk Q_HD
      have KP := Aside0.mk Q_KP
      have G0 := Aside0.mk (Q_G0 (hoff 9 (by kernel_rfl)))
      have S0 := Aside0.mk (Q_S0 (hoff 9 (by kernel_rfl)))
      refine Kd.R_make_step (Kd.int .u8) _ 5 (by rfl) (N := 25) rfl 29 _ _ rfl N (by first | rfl | (simp [Act.eval, e24]; done)) (by first | rfl | (simp [Act.eval, e24]; done)) Try.underlying29 (.int .u8 0) 1 info5 rfl (by decide) (by omega) 0 (ok := fun _ => True) (okp := fun _ => True) rfl (fun _ hk => hk) trivial hN (by omega) (Below.refl _ _) (Nat.le_refl _) ?_
      intro v8 wn8 ho8 hb hg_ hnew_
      clear hg_ hnew_
      rw [← HZ.out] at ho8
      obtain ⟨A8n, c8n, rfl⟩ := Kd.R_slice ho8
      refine hK.out _ _ ⟨A8n, c8n, A9_, c9_, g13_, (.slice A8n z.length c8n), m13_, (by rw [ha.out]; exact putSel_upk 1 hb_ rfl rfl rfl), Below.trans HD.out (Below.mono hb (Nat.le_trans HBW.out HD.out.size)), Keep.trans KP.out (Keep.below hb), fun _ => blk_below G0.out hb, fun _ => Kd.S_below S0.out hb, fun _ _ => Kd.R_lower ho8 HD.out.size, fun h0_ => absurd ((hoff 9 (by kernel_rfl)).symm.trans h0_) (by decide), fun h0_ => absurd ((hoff 9 (by kernel_rfl)).symm.trans h0_) (by decide), fun h0_ h1_ => ⟨(Q_BZ h0_ h1_).1, blk_below (Q_BZ h0_ h1_).2 hb⟩, fun _ h1_ => absurd ((hoff 14 (by kernel_rfl)).symm.trans h1_) (by decide), fun _ => rfl, Q_X13_⟩
    refine steps_cons ?_ ?_
    · rintro b a w' ⟨A8_, c8_, A9_, c9_, g13_, m8_, m13_, ha, Q_HD, Q_KP, Q_G0, Q_S0, Q_Z8, Q_G1, Q_S1, Q_BZ, Q_BW, Q_X8_, Q_X13_⟩ hb_ hon hoff
      refine ⟨_, rfl, fun K hK => ?_⟩
      have e19 : a.tmps[19]? = some (.pointer (some ⟨gb, 0, none⟩)) := by rw [ha]; exact (putSel_off rfl).trans rfl
      have e23 : a.tmps[23]? = some (.agg #[.int .i64 (ix : Int), .int .i64 s, .int .i64 n, .int .i64 c]) := by rw [ha]; exact putSel_on (e := (6, 23, .agg #[.int .i64 (ix : Int), .int .i64 s, .int .i64 n, .int .i64 c])) 0 rfl rfl (hon 6 (by kernel_rfl)) rfl
      have e25 : a.tmps[25]? = some (m8_) := by rw [ha]; exact putSel_on (e := (8, 25, m8_)) 1 rfl rfl (hon 8 (by kernel_rfl)) rfl
      rw [Q_X8_ (hon 8 (by kernel_rfl))] at e25
      replace ha := Aside0.mk ha
      have HD := Aside0.mk Q_HD
      have KP := Aside0.mk Q_KP
      have G0 := Aside0.mk (Q_G0 hb_)
      have S0 := Aside0.mk (Q_S0 hb_)
      have Z8 := Aside0.mk (Q_Z8 (hon 8 (by kernel_rfl)) hb_)
      refine goes_ Try.func189 (by kernel_rfl) rfl #[.pointer (some ⟨gb, 0, none⟩), .agg #[.int .i64 (ix : Int), .int .i64 s, .int .i64 n, .int .i64 c], .slice A8_ z.length c8_] (by rfl) rfl rfl (by first | (simp only [List.map_toArray, List.map_cons, List.map_nil, Act.eval, Array.getD_eq_getD_getElem?, Option.getD_some, e19, e23, e25]; done) | (simp only [List.map_toArray, List.map_cons, List.map_nil, Act.eval, Array.getD_eq_getD_getElem?, Option.getD_some, e19, e23, e25]; rfl)) ?_
      refine (appended_at gb 0 #[.slice A m.length mc, .int .i64 (ix : Int), .int .i64 s, .int .i64 n, .int .i64 c, .int .i64 fr, .int .i64 tt] 34 A mc m ix s n c A8_ c8_ z HP.out base ok w' G0.out rfl S0.out (Kd.R_reads' Z8.out).2.2 hzl8.out h2 h3 h9 hix h4 h5 h6 hm (by decide) (by decide) (Nat.le_trans HBW.out HD.out.size) hbG (fun k hk => hok k (Nat.le_trans HZ0.out (Nat.le_trans HD.out.size hk)))).mono ?_
      rintro e wn9 ⟨rfl, A9n, c9n, hb9, hS9, hB9, hK9⟩
      refine ⟨_, rfl, ?_⟩
      refine hK.out _ _ ⟨A8_, c8_, A9n, c9n, g13_, m8_, m13_, (by rw [ha.out]; exact putSel_upk 2 hb_ rfl rfl rfl), Below.trans HD.out hB9, Keep.trans KP.out hK9, fun h0_ => absurd ((up_self b 9).symm.trans h0_) (by decide), fun h0_ => absurd ((up_self b 9).symm.trans h0_) (by decide), fun _ h1_ => absurd ((up_self b 9).symm.trans h1_) (by decide), fun _ => hb9, fun _ => hS9, fun h0_ h1_ => ⟨(Q_BZ h0_ h1_).1, hK9 _ _ _ (Q_BZ h0_ h1_).2 (Nat.ne_of_gt (Nat.lt_of_lt_of_le HGW.out (Q_BZ h0_ h1_).1)) (by decide) (by decide)⟩, fun _ h1_ => absurd ((hoff 14 (by kernel_rfl)).symm.trans h1_) (by decide), Q_X8_, Q_X13_⟩
    refine steps_cons ?_ ?_
    · rintro b a w' ⟨A8_, c8_, A9_, c9_, g13_, m8_, m13_, ha, Q_HD, Q_KP, Q_G0, Q_S0, Q_Z8, Q_G1, Q_S1, Q_BZ, Q_BW, Q_X8_, Q_X13_⟩ hb_ hon hoff
      refine ⟨_, rfl, fun K hK => ?_⟩
      have e26 : a.tmps[26]? = some (.tuple #[.agg #[.int .i64 (jx : Int), .int .i64 s', .int .i64 n', .int .i64 c'], .bool true]) := by rw [ha]; exact putSel_on (e := (9, 26, .tuple #[.agg #[.int .i64 (jx : Int), .int .i64 s', .int .i64 n', .int .i64 c'], .bool true])) 2 rfl rfl (hon 9 (by kernel_rfl)) rfl
      replace ha := Aside0.mk ha
      have HD := Aside0.mk Q_HD
      have KP := Aside0.mk Q_KP
      have G1 := Aside0.mk (Q_G1 (hon 9 (by kernel_rfl)))
      have S1 := Aside0.mk (Q_S1 (hon 9 (by kernel_rfl)))
      refine value_ (w1 := w') (v := .tuple #[.agg #[.int .i64 (jx : Int), .int .i64 s', .int .i64 n', .int .i64 c'], .bool true]) (by rfl) rfl ?_ ?_
      · go_simp
        (try simp only [i64_w])
        try rfl
      refine hK.out _ _ ⟨A8_, c8_, A9_, c9_, g13_, m8_, m13_, (by rw [ha.out]; exact putSel_upk 3 hb_ rfl rfl rfl), Q_HD, Q_KP, fun h0_ => absurd ((hon 9 (by kernel_rfl)).symm.trans h0_) (by decide), fun h0_ => absurd ((hon 9 (by kernel_rfl)).symm.trans h0_) (by decide), fun _ h1_ => absurd ((hon 9 (by kernel_rfl)).symm.trans h1_) (by decide), Q_G1, Q_S1, Q_BZ, fun _ h1_ => absurd ((hoff 14 (by kernel_rfl)).symm.trans h1_) (by decide), Q_X8_, Q_X13_⟩
    refine steps_cons ?_ ?_
    · rintro b a w' ⟨A8_, c8_, A9_, c9_, g13_, m8_, m13_, ha, Q_HD, Q_KP, Q_G0, Q_S0, Q_Z8, Q_G1, Q_S1, Q_BZ, Q_BW, Q_X8_, Q_X13_⟩ hb_ hon hoff
      refine ⟨_, rfl, fun K hK => ?_⟩
      have e16 : a.tmps[16]? = some (.tuple #[.agg #[.int .i64 (jx : Int), .int .i64 s', .int .i64 n', .int .i64 c'], .bool true]) := by rw [ha]; exact putSel_on (e := (10, 16, .tuple #[.agg #[.int .i64 (jx : Int), .int .i64 s', .int .i64 n', .int .i64 c'], .bool true])) 3 rfl rfl (hon 10 (by kernel_rfl)) rfl
      replace ha := Aside0.mk ha
      have HD := Aside0.mk Q_HD
      have KP := Aside0.mk Q_KP
      have G1 := Aside0.mk (Q_G1 (hon 9 (by kernel_rfl)))
      have S1 := Aside0.mk (Q_S1 (hon 9 (by kernel_rfl)))
      refine value_ (w1 := w') (v := .agg #[.int .i64 (jx : Int), .int .i64 s', .int .i64 n', .int .i64 c']) (by rfl) rfl ?_ ?_
      · go_simp
        (try simp only [i64_w])
        try rfl
      refine hK.out _ _ ⟨A8_, c8_, A9_, c9_, g13_, m8_, m13_, (by rw [ha.out]; exact putSel_upk 4 hb_ rfl rfl rfl), Q_HD, Q_KP, fun h0_ => absurd ((hon 9 (by kernel_rfl)).symm.trans h0_) (by decide), fun h0_ => absurd ((hon 9 (by kernel_rfl)).symm.trans h0_) (by decide), fun _ h1_ => absurd ((hon 9 (by kernel_rfl)).symm.trans h1_) (by decide), Q_G1, Q_S1, Q_BZ, fun _ h1_ => absurd ((hoff 14 (by kernel_rfl)).symm.trans h1_) (by decide), Q_X8_, Q_X13_⟩
    refine steps_cons ?_ ?_
    · rintro b a w' ⟨A8_, c8_, A9_, c9_, g13_, m8_, m13_, ha, Q_HD, Q_KP, Q_G0, Q_S0, Q_Z8, Q_G1, Q_S1, Q_BZ, Q_BW, Q_X8_, Q_X13_⟩ hb_ hon hoff
      refine ⟨_, rfl, fun K hK => ?_⟩
      have e16 : a.tmps[16]? = some (.tuple #[.agg #[.int .i64 (jx : Int), .int .i64 s', .int .i64 n', .int .i64 c'], .bool true]) := by rw [ha]; exact putSel_on (e := (10, 16, .tuple #[.agg #[.int .i64 (jx : Int), .int .i64 s', .int .i64 n', .int .i64 c'], .bool true])) 3 rfl rfl (hon 10 (by kernel_rfl)) rfl
      replace ha := Aside0.mk ha
      have HD := Aside0.mk Q_HD
      have KP := Aside0.mk Q_KP
      have G1 := Aside0.mk (Q_G1 (hon 9 (by kernel_rfl)))
      have S1 := Aside0.mk (Q_S1 (hon 9 (by kernel_rfl)))
      refine value_ (w1 := w') (v := .bool true) (by rfl) rfl ?_ ?_
      · go_simp
        (try simp only [i64_w])
        try rfl
      refine hK.out _ _ ⟨A8_, c8_, A9_, c9_, g13_, m8_, m13_, (by rw [ha.out]; exact putSel_upk 5 hb_ rfl rfl rfl), Q_HD, Q_KP, fun h0_ => absurd ((hon 9 (by kernel_rfl)).symm.trans h0_) (by decide), fun h0_ => absurd ((hon 9 (by kernel_rfl)).symm.trans h0_) (by decide), fun _ h1_ => absurd ((hon 9 (by kernel_rfl)).symm.trans h1_) (by decide), Q_G1, Q_S1, Q_BZ, Q_BW, Q_X8_, Q_X13_⟩
    refine steps_cons ?_ ?_
    · rintro b a w' ⟨A8_, c8_, A9_, c9_, g13_, m8_, m13_, ha, Q_HD, Q_KP, Q_G0, Q_S0, Q_Z8, Q_G1, Q_S1, Q_BZ, Q_BW, Q_X8_, Q_X13_⟩ hb_ hon hoff
      refine ⟨_, rfl, fun K hK => ?_⟩
      replace ha := Aside0.mk ha
      have HD := Aside0.mk Q_HD
      have KP := Aside0.mk Q_KP
      refine box_step ?hg (N := 6) ?hd (cs := #[.int .i64 0, .int .i64 0, .int .i64 0, .int .i64 0]) (t := 32) ?hr ?_; (case hd => rfl); (case hg => rfl); (case hr => first | (go_simp; done) | (go_simp; rfl))
      intro g13n hg wn13 hbox hb
      refine hK.out _ _ ⟨A8_, c8_, A9_, c9_, g13n, m8_, (.pointer (some ⟨g13n, 0, none⟩)), (by rw [ha.out]; exact putSel_upk 6 hb_ rfl rfl rfl), Below.trans HD.out (Below.mono hb (Nat.le_trans HBW.out HD.out.size)), Keep.trans KP.out (Keep.below hb), fun h0_ => blk_below (Q_G0 h0_) hb, fun h0_ => Kd.S_below (Q_S0 h0_) hb, fun h0_ h1_ => Kd.R_below (Q_Z8 h0_ h1_) hb, fun h0_ => blk_below (Q_G1 h0_) hb, fun h0_ => Kd.S_below (Q_S1 h0_) hb, fun _ _ => ⟨(by rw [hg]; exact HD.out.size), hbox⟩, fun _ h1_ => absurd ((hoff 14 (by kernel_rfl)).symm.trans h1_) (by decide), Q_X8_, fun _ => rfl⟩
    refine steps_cons ?_ ?_
    · rintro b a w' ⟨A8_, c8_, A9_, c9_, g13_, m8_, m13_, ha, Q_HD, Q_KP, Q_G0, Q_S0, Q_Z8, Q_G1, Q_S1, Q_BZ, Q_BW, Q_X8_, Q_X13_⟩ hb_ hon hoff
      refine ⟨_, rfl, fun K hK => ?_⟩
      have e6 : a.tmps[6]? = some (m13_) := by rw [ha]; exact putSel_on (e := (13, 6, m13_)) 6 rfl rfl (hon 13 (by kernel_rfl)) rfl
      rw [Q_X13_ (hon 13 (by kernel_rfl))] at e6
      have e27 : a.tmps[27]? = some (.agg #[.int .i64 (jx : Int), .int .i64 s', .int .i64 n', .int .i64 c']) := by rw [ha]; exact putSel_on (e := (11, 27, .agg #[.int .i64 (jx : Int), .int .i64 s', .int .i64 n', .int .i64 c'])) 4 rfl rfl (hon 11 (by kernel_rfl)) rfl
      replace ha := Aside0.mk ha
      have HD := Aside0.mk Q_HD
      have KP := Aside0.mk Q_KP
      have G1 := Aside0.mk (Q_G1 (hon 9 (by kernel_rfl)))
      have S1 := Aside0.mk (Q_S1 (hon 9 (by kernel_rfl)))
      have BZ := Aside0.mk (Q_BZ (hon 13 (by kernel_rfl)) hb_)
      have BZ2 := Aside0.mk BZ.out.2
      obtain ⟨qc0, qc1, qc2, qc3, qf0, qf1, qf2, qf3⟩ := zc4 BZ2
      have hl_ := blk_lt BZ2.out
      refine skip_ (w1 := ?_) (by rfl) rfl ?_ ?_
      rotate_left
      · go_simp
        rfl
      have hnew_ := puts4 BZ2.out (.int .i64 (jx : Int)) (.int .i64 s') (.int .i64 n') (.int .i64 c')
      have hg_ := grows4 w' g13_ (.int .i64 (jx : Int)) (.int .i64 s') (.int .i64 n') (.int .i64 c')
      generalize (World.setCell (World.setCell (World.setCell (World.setCell w' ⟨g13_, 0, none⟩ (.int .i64 (jx : Int))) ⟨g13_, 1, none⟩ (.int .i64 s')) ⟨g13_, 2, none⟩ (.int .i64 n')) ⟨g13_, 3, none⟩ (.int .i64 c')) = wn14 at hnew_ hg_ ⊢
      refine hK.out _ _ ⟨A8_, c8_, A9_, c9_, g13_, m8_, m13_, (by rw [ha.out]; exact putSel_none (v := undef) rfl), Below.trans HD.out (below_of_grown (Below.refl base _) hg_ (Nat.le_trans HBW.out BZ.out.1) (Nat.le_trans HBW.out HD.out.size)), Keep.new KP.out hg_ BZ.out.1, fun h0_ => absurd ((hon 9 (by kernel_rfl)).symm.trans h0_) (by decide), fun h0_ => absurd ((hon 9 (by kernel_rfl)).symm.trans h0_) (by decide), fun _ h1_ => absurd ((hon 9 (by kernel_rfl)).symm.trans h1_) (by decide), fun _ => blk_grown G1.out hg_ (fun e_ => Nat.ne_of_lt (Nat.lt_of_lt_of_le HGW.out BZ.out.1) (Option.some.inj e_)), fun _ => Kd.S_mono (Kd.S_grown (Kd.S_types S1.out BZ.out.2 (by decide)) hg_ (fun k_ hk_ e_ => hk_.2 (Option.some.inj e_))) (fun _ h_ => h_.1), fun _ h1_ => absurd ((up_self b 14).symm.trans h1_) (by decide), fun _ _ => ⟨BZ.out.1, hnew_⟩, Q_X8_, Q_X13_⟩
    refine steps_cons ?_ ?_
    · rintro b a w' ⟨A8_, c8_, A9_, c9_, g13_, m8_, m13_, ha, Q_HD, Q_KP, Q_G0, Q_S0, Q_Z8, Q_G1, Q_S1, Q_BZ, Q_BW, Q_X8_, Q_X13_⟩ hb_ hon hoff
      refine ⟨_, rfl, fun K hK => ?_⟩
      have e28 : a.tmps[28]? = some (.bool true) := by rw [ha]; exact putSel_on (e := (12, 28, .bool true)) 5 rfl rfl (hon 12 (by kernel_rfl)) rfl
      replace ha := Aside0.mk ha
      have HD := Aside0.mk Q_HD
      have KP := Aside0.mk Q_KP
      have G1 := Aside0.mk (Q_G1 (hon 9 (by kernel_rfl)))
      have S1 := Aside0.mk (Q_S1 (hon 9 (by kernel_rfl)))
      have BW := Aside0.mk (Q_BW (hon 13 (by kernel_rfl)) (hon 14 (by kernel_rfl)))
      refine value_ (w1 := w') (v := .bool true) (by rfl) rfl ?_ ?_
      · go_simp
        (try simp only [i64_w])
        try rfl
      refine hK.out _ _ ⟨A8_, c8_, A9_, c9_, g13_, m8_, m13_, (by rw [ha.out]; exact putSel_upk 7 hb_ rfl rfl rfl), Q_HD, Q_KP, fun h0_ => absurd ((hon 9 (by kernel_rfl)).symm.trans h0_) (by decide), fun h0_ => absurd ((hon 9 (by kernel_rfl)).symm.trans h0_) (by decide), fun _ h1_ => absurd ((hon 9 (by kernel_rfl)).symm.trans h1_) (by decide), Q_G1, Q_S1, fun _ h1_ => absurd ((hon 14 (by kernel_rfl)).symm.trans h1_) (by decide), Q_BW, Q_X8_, Q_X13_⟩
    exact steps_nil
  rintro b a w4 hall ⟨A8_, c8_, A9_, c9_, g13_, m8_, m13_, ha, Q_HD, Q_KP, Q_G0, Q_S0, Q_Z8, Q_G1, Q_S1, Q_BZ, Q_BW, Q_X8_, Q_X13_⟩
  clear G0 HD KP S0
  have hb6_ := hall 6 (by kernel_rfl)
  have hb8_ := hall 8 (by kernel_rfl)
  have hb9_ := hall 9 (by kernel_rfl)
  have hb10_ := hall 10 (by kernel_rfl)
  have hb11_ := hall 11 (by kernel_rfl)
  have hb12_ := hall 12 (by kernel_rfl)
  have hb13_ := hall 13 (by kernel_rfl)
  have hb14_ := hall 14 (by kernel_rfl)
  have hb15_ := hall 15 (by kernel_rfl)
  subst ha
  obtain rfl := Q_X8_ hb8_
  obtain rfl := Q_X13_ hb13_
  simp only [putSel, hb6_, hb8_, hb9_, hb10_, hb11_, hb12_, hb13_, hb14_, hb15_, if_true, Act.put, List.setIfInBounds_toArray, List.set_cons_zero, List.set_cons_succ]
  have HD := Aside0.mk Q_HD
  clear Q_HD
  have KP := Aside0.mk Q_KP
  clear Q_KP
  clear Q_G0
  clear Q_S0
  clear Q_Z8
  have G1 := Aside0.mk (Q_G1 hb9_)
  clear Q_G1
  have S1 := Aside0.mk (Q_S1 hb9_)
  clear Q_S1
  clear Q_BZ
  have BW := Aside0.mk (Q_BW hb13_ hb14_)
  clear Q_BW
  clear hall hb6_ hb8_ hb9_ hb10_ hb11_ hb12_ hb13_ hb14_ hb15_
  replace HB0 := Aside0.mk (Below.trans HB0.out HD.out)
  replace HK0 := Aside0.mk (Keep.trans HK0.out KP.out)
  have HW := Aside0.mk (Nat.le_trans HZ0.out HD.out.size)
  have BW2 := Aside0.mk BW.out.2
  have N13 := Aside0.mk (Nat.le_trans HZ0.out BW.out.1)
  clear HD KP BW HBW HGW HZ0
  obtain ⟨gm, cm, em, _⟩ := Kd.S_form S1.out (by omega)
  obtain ⟨rfl, -, rfl⟩ := Value.slice.inj em
  have kn' := kn.out
  have hzl' := hzl.out
  obtain ⟨sn, rfl⟩ : ∃ k_ : Nat, s' = (k_ : Int) := ⟨s'.toNat, by omega⟩
  obtain ⟨nn, rfl⟩ : ∃ k_ : Nat, n' = (k_ : Int) := ⟨n'.toNat, by omega⟩
  obtain ⟨tn, rfl⟩ : ∃ k_ : Nat, tt = (k_ : Int) := ⟨tt.toNat, by omega⟩
  obtain ⟨Nn, rfl⟩ : ∃ k_ : Nat, N = (k_ : Int) := ⟨N.toNat, by omega⟩
  obtain ⟨on, rfl⟩ : ∃ k_ : Nat, n = (k_ : Int) := ⟨n.toNat, by omega⟩
  have kn2 : nn = on + Nn := by rw [Int.toNat_natCast] at hzl'; omega
  clear kn' hzl'
  replace kn2 := Aside0.mk kn2
  go_wp2_with fail
  refine start_ (n := 7) (S := fun w' => w'.cell? ⟨gb, 0, none⟩ = some (.slice (some ⟨gm, 0, none⟩) M.length c9_) ∧ w'.cell? ⟨g13_, 0, none⟩ = some (.int .i64 (jx : Int)) ∧ w'.cell? ⟨g13_, 1, none⟩ = some (.int .i64 (sn : Int)) ∧ w'.cell? ⟨g13_, 2, none⟩ = some (.int .i64 (nn : Int)) ∧ w'.cell? ⟨g13_, 3, none⟩ = some (.int .i64 c')) (ds := []) #[false, false, false, false, false, false, false] (by kernel_rfl) rfl rfl ⟨(blk_cell G1.out 0).trans rfl, (blk_cell BW2.out 0).trans rfl, (blk_cell BW2.out 1).trans rfl, (blk_cell BW2.out 2).trans rfl, (blk_cell BW2.out 3).trans rfl⟩ (fun hHeld => ?_)
  replace G1 := Aside0.mk (blk_drew G1.out)
  replace S1 := Aside0.mk (Kd.S_drew S1.out)
  replace BW2 := Aside0.mk (blk_drew BW2.out)
  replace HB0 := Aside0.mk (below_drew1 HB0.out)
  replace HK0 := Aside0.mk (show Keep w w4.drew gb from fun k c t h1 h2 h3 h4 => blk_drew (HK0.out k c t h1 h2 h3 h4))
  replace HW := Aside0.mk (show w.heap.size ≤ w4.drew.heap.size from HW.out)
  generalize w4.drew = w5 at G1 S1 BW2 HB0 HK0 HW hHeld ⊢
  refine pure_ (i := 0) (N := some 31) (v := ?_) (a' := ?_) #[true, false, false, false, false, false, false] rfl rfl (by kernel_rfl) (fun _ _ _ h => h) (Or.inl ⟨by rfl, ?_⟩) ?_ ?_
  rotate_left
  · intro w'
    go_simp
    with_reducible rfl
  rotate_left
  · simp only [Act.put, List.setIfInBounds_toArray, List.set_cons_zero, List.set_cons_succ, i64_w, i32_w]
    rfl
  refine pure_ (i := 1) (N := some 32) (v := ?_) (a' := ?_) #[true, true, false, false, false, false, false] rfl rfl (by kernel_rfl) (fun _ _ _ h => h) (Or.inl ⟨by rfl, ?_⟩) ?_ ?_
  rotate_left
  · intro w'
    go_simp
    with_reducible rfl
  rotate_left
  · simp only [Act.put, List.setIfInBounds_toArray, List.set_cons_zero, List.set_cons_succ, i64_w, i32_w]
    rfl
  refine pure_ (i := 2) (N := some 33) (v := ?_) (a' := ?_) #[true, true, true, false, false, false, false] rfl rfl (by kernel_rfl) (fun _ _ _ h => h) (Or.inl ⟨by rfl, ?_⟩) ?_ ?_
  rotate_left
  · intro w'
    go_simp
    with_reducible rfl
  rotate_left
  · simp only [Act.put, List.setIfInBounds_toArray, List.set_cons_zero, List.set_cons_succ, i64_w, i32_w]
    rfl
  refine take_ (i := 3) (N := some 34) (v := ?_) (a' := ?_) #[true, true, true, true, false, false, false] rfl rfl (by kernel_rfl) (fun _ _ _ h => h) (Or.inl ⟨by rfl, ?_⟩) hHeld ?_ ?_
  rotate_left
  · rintro w' ⟨s0, s1, s2, s3, s4⟩
    go_simp
    with_reducible rfl
  rotate_left
  · simp only [Act.put, List.setIfInBounds_toArray, List.set_cons_zero, List.set_cons_succ, i64_w, i32_w]
    rfl
  refine take_ (i := 4) (N := some 35) (v := ?_) (a' := ?_) #[true, true, true, true, true, false, false] rfl rfl (by kernel_rfl) (fun _ _ _ h => h) (Or.inl ⟨by rfl, ?_⟩) hHeld ?_ ?_
  rotate_left
  · rintro w' ⟨s0, s1, s2, s3, s4⟩
    go_simp
    with_reducible rfl
  rotate_left
  · simp only [Act.put, List.setIfInBounds_toArray, List.set_cons_zero, List.set_cons_succ, i64_w, i32_w]
    rfl
  obtain ⟨g, cc, hcell, hcc, _⟩ := S_row S1.out jx hj k7
  refine one_ (i := 5) (N := some 36) #[true, true, true, true, true, true, false] rfl rfl (by kernel_rfl) (by decide) (fun K hK => ?_)
  refine goes_ Try.func107 (by kernel_rfl) rfl #[.agg #[.slice (some ⟨gm, 0, none⟩) M.length c9_], .agg #[.int .i64 (jx : Int), .int .i64 (sn : Int), .int .i64 (nn : Int), .int .i64 c']] (by rfl) rfl rfl (by (try simp only [List.map_toArray, List.map_cons, List.map_nil]); first | done | rfl) ?_
  refine (impl_Memory_seen.at_ ⟨gm, 0, none⟩ M.length c9_ jx sn nn c' g M[jx].length cc w5 (by rw [Int.toNat_natCast]; exact hcell) (by omega) (by omega) k2 (by omega) (by omega) (by omega)).mono ?_
  rintro e w6 ⟨rfl, hb⟩
  have hoff : 0 < nn → (if cc = ((sn : Int)).toNat then 0 else ((sn : Int)).toNat) = sn := fun h_ => by rw [Int.toNat_natCast, if_neg (by omega)]
  generalize (if cc = ((sn : Int)).toNat then 0 else ((sn : Int)).toNat) = off at hoff ⊢
  refine ⟨_, rfl, ?_⟩
  replace hcell := (World.cell?_of_block (hb.block _ (cell_lt hcell))).trans hcell
  replace G1 := Aside0.mk (blk_below G1.out hb)
  replace S1 := Aside0.mk (Kd.S_below S1.out hb)
  replace BW2 := Aside0.mk (blk_below BW2.out hb)
  replace HB0 := Aside0.mk (Below.trans HB0.out (Below.mono hb (Nat.le_trans hbase HW.out)))
  replace HK0 := Aside0.mk (Keep.trans HK0.out (Keep.below hb))
  replace HW := Aside0.mk (Nat.le_trans HW.out hb.size)
  clear hb
  refine hK.out _ _ ⟨(blk_cell G1.out 0).trans rfl, (blk_cell BW2.out 0).trans rfl, (blk_cell BW2.out 1).trans rfl, (blk_cell BW2.out 2).trans rfl, (blk_cell BW2.out 3).trans rfl⟩ (fun hHeld => ?_)
  clear hK K
  refine norm_ (a' := ?_) ?_ ?_
  rotate_left
  · show Act.put _ (some 36) _ = _
    simp only [Act.put, List.setIfInBounds_toArray, List.set_cons_zero, List.set_cons_succ, i64_w, i32_w]
    rfl
  refine pure_ (i := 6) (N := some 8) (v := ?_) (a' := ?_) #[true, true, true, true, true, true, true] rfl rfl (by kernel_rfl) (fun _ _ _ h => h) (Or.inl ⟨by rfl, ?_⟩) ?_ ?_
  rotate_left
  · intro w'
    go_simp
    with_reducible rfl
  rotate_left
  · simp only [Act.put, List.setIfInBounds_toArray, List.set_cons_zero, List.set_cons_succ, i64_w, i32_w]
    rfl
  refine done_ (by kernel_rfl) ?_
  clear hHeld
  go_wp2_with fail
  clear HT_ HW_
  simp only [Int.toNat_natCast] at hoff ⊢
  obtain ⟨dn, hdn⟩ : ∃ dn : Nat, dn = tn + Nn := ⟨_, rfl⟩
  have kn3 := kn2.out
  have q1 : dn ≤ nn := by omega
  have q2 : nn ≤ cc - sn := by omega
  have q3 : tn ≤ on := by omega
  have q4 : on ≤ cc - sn := by omega
  have q6 : on ≤ nn := by omega
  have q5 : on - tn = nn - dn := by omega
  have b0 : tn + Nn ≤ 4611686018427387904 := by omega
  have e1 : wrap64 ((tn : Int) + (Nn : Int)) = (dn : Int) := by rw [hdn]; exact wrap_add b0
  clear b0
  replace e1 := Aside0.mk e1
  clear kn3
  replace hdn := Aside0.mk hdn
  replace q5 := Aside0.mk q5
  obtain ⟨od, eod, hod⟩ : ∃ od : Nat, (if cc - sn = dn then some (⟨g, off, none⟩ : Addr) else some ⟨g, off + dn, none⟩) = some ⟨g, od, none⟩ ∧ (dn < nn → od = sn + dn) := by
    by_cases x1 : cc - sn = dn
    · exact ⟨_, by rw [if_pos x1], fun h => by omega⟩
    · exact ⟨_, by rw [if_neg x1], fun h => by rw [hoff (by omega)]⟩
  obtain ⟨os, eos, hos⟩ : ∃ os : Nat, (if cc - sn = tn then some (⟨g, off, none⟩ : Addr) else some ⟨g, off + tn, none⟩) = some ⟨g, os, none⟩ ∧ (tn < on → os = sn + tn) := by
    by_cases x1 : cc - sn = tn
    · exact ⟨_, by rw [if_pos x1], fun h => by omega⟩
    · exact ⟨_, by rw [if_neg x1], fun h => by rw [hoff (by omega)]⟩
  refine start_ (n := 16) (S := fun w' => w'.cell? ⟨gb, 6, none⟩ = some (.int .i64 (tn : Int))) (ds := [15]) #[false, false, false, false, false, false, false, false, false, false, false, false, false, false, false, false] (by kernel_rfl) rfl rfl ((blk_cell G1.out 6).trans rfl) (fun hHeld => ?_)
  have HW7 := Aside0.mk (show ∀ {a_ : Addr} {v_ : Value}, w6.cell? a_ = some v_ → w6.drew.cell? a_ = some v_ from fun h_ => h_)
  replace G1 := Aside0.mk (blk_drew G1.out)
  replace S1 := Aside0.mk (Kd.S_drew S1.out)
  replace BW2 := Aside0.mk (blk_drew BW2.out)
  replace HB0 := Aside0.mk (below_drew1 HB0.out)
  replace HK0 := Aside0.mk (show Keep w w6.drew gb from fun k c t h1 h2 h3 h4 => blk_drew (HK0.out k c t h1 h2 h3 h4))
  replace HW := Aside0.mk (show w.heap.size ≤ w6.drew.heap.size from HW.out)
  generalize w6.drew = w7 at HW7 G1 S1 BW2 HB0 HK0 HW hHeld ⊢
  refine pure_ (i := 0) (N := some 37) (v := ?_) (a' := ?_) #[true, false, false, false, false, false, false, false, false, false, false, false, false, false, false, false] rfl rfl (by kernel_rfl) (fun _ _ _ h => h) (Or.inl ⟨by rfl, ?_⟩) ?_ ?_
  rotate_left
  · intro w'
    go_simp
    with_reducible rfl
  rotate_left
  · simp only [Act.put, List.setIfInBounds_toArray, List.set_cons_zero, List.set_cons_succ, i64_w, i32_w]
    rfl
  refine pure_ (i := 1) (N := some 38) (v := ?_) (a' := ?_) #[true, true, false, false, false, false, false, false, false, false, false, false, false, false, false, false] rfl rfl (by kernel_rfl) (fun _ _ _ h => h) (Or.inl ⟨by rfl, ?_⟩) ?_ ?_
  rotate_left
  · intro w'
    go_simp
    with_reducible rfl
  rotate_left
  · simp only [Act.put, List.setIfInBounds_toArray, List.set_cons_zero, List.set_cons_succ, i64_w, i32_w]
    rfl
  refine pure_ (i := 2) (N := some 39) (v := ?_) (a' := ?_) #[true, true, true, false, false, false, false, false, false, false, false, false, false, false, false, false] rfl rfl (by kernel_rfl) (fun _ _ _ h => h) (Or.inl ⟨by rfl, ?_⟩) ?_ ?_
  rotate_left
  · intro w'
    go_simp
    with_reducible rfl
  rotate_left
  · simp only [Act.put, List.setIfInBounds_toArray, List.set_cons_zero, List.set_cons_succ, i64_w, i32_w]
    rfl
  refine pure_ (i := 3) (N := some 40) (v := ?_) (a' := ?_) #[true, true, true, true, false, false, false, false, false, false, false, false, false, false, false, false] rfl rfl (by kernel_rfl) (fun _ _ _ h => h) (Or.inl ⟨by rfl, ?_⟩) ?_ ?_
  rotate_left
  · intro w'
    go_simp
    with_reducible rfl
  rotate_left
  · simp only [Act.put, List.setIfInBounds_toArray, List.set_cons_zero, List.set_cons_succ, i64_w, i32_w]
    rfl
  refine take_ (i := 4) (N := some 41) (v := ?_) (a' := ?_) #[true, true, true, true, true, false, false, false, false, false, false, false, false, false, false, false] rfl rfl (by kernel_rfl) (fun _ _ _ h => h) (Or.inl ⟨by rfl, ?_⟩) hHeld ?_ ?_
  rotate_left
  · rintro w' s0
    go_simp
    with_reducible rfl
  rotate_left
  · simp only [Act.put, List.setIfInBounds_toArray, List.set_cons_zero, List.set_cons_succ, i64_w, i32_w]
    rfl
  refine pure_ (i := 5) (N := some 42) (v := ?_) (a' := ?_) #[true, true, true, true, true, true, false, false, false, false, false, false, false, false, false, false] rfl rfl (by kernel_rfl) (fun _ _ _ h => h) (Or.inl ⟨by rfl, ?_⟩) ?_ ?_
  rotate_left
  · intro w'
    go_simp
    with_reducible rfl
  rotate_left
  · simp only [Act.put, List.setIfInBounds_toArray, List.set_cons_zero, List.set_cons_succ, i64_w, i32_w]
    rfl
  have e2 := e1.out
  refine pure_ (i := 6) (N := some 43) (v := .int .i64 (dn : Int)) (a' := ?_) #[true, true, true, true, true, true, true, false, false, false, false, false, false, false, false, false] rfl rfl (by kernel_rfl) (fun _ _ _ h => h) (Or.inl ⟨by rfl, ?_⟩) ?_ ?_
  · intro w'
    go_simp
    exact (i64_w _).trans e2
  rotate_left
  · simp only [Act.put, List.setIfInBounds_toArray, List.set_cons_zero, List.set_cons_succ, i64_w, i32_w]
    rfl
  clear e2
  refine pure_ (i := 7) (N := some 44) (v := .slice (some ⟨g, od, none⟩) (nn - dn) (cc - sn - dn)) (a' := ?_) #[true, true, true, true, true, true, true, true, false, false, false, false, false, false, false, false] rfl rfl (by kernel_rfl) (fun _ _ _ h => h) (Or.inl ⟨by rfl, ?_⟩) ?_ ?_
  · intro w'
    go_simp
  rotate_left
  · simp only [Act.put, List.setIfInBounds_toArray, List.set_cons_zero, List.set_cons_succ, i64_w, i32_w]
    rfl
  refine pure_ (i := 8) (N := some 45) (v := ?_) (a' := ?_) #[true, true, true, true, true, true, true, true, true, false, false, false, false, false, false, false] rfl rfl (by kernel_rfl) (fun _ _ _ h => h) (Or.inl ⟨by rfl, ?_⟩) ?_ ?_
  rotate_left
  · intro w'
    go_simp
    with_reducible rfl
  rotate_left
  · simp only [Act.put, List.setIfInBounds_toArray, List.set_cons_zero, List.set_cons_succ, i64_w, i32_w]
    rfl
  refine pure_ (i := 9) (N := some 46) (v := ?_) (a' := ?_) #[true, true, true, true, true, true, true, true, true, true, false, false, false, false, false, false] rfl rfl (by kernel_rfl) (fun _ _ _ h => h) (Or.inl ⟨by rfl, ?_⟩) ?_ ?_
  rotate_left
  · intro w'
    go_simp
    with_reducible rfl
  rotate_left
  · simp only [Act.put, List.setIfInBounds_toArray, List.set_cons_zero, List.set_cons_succ, i64_w, i32_w]
    rfl
  refine pure_ (i := 10) (N := some 47) (v := ?_) (a' := ?_) #[true, true, true, true, true, true, true, true, true, true, true, false, false, false, false, false] rfl rfl (by kernel_rfl) (fun _ _ _ h => h) (Or.inl ⟨by rfl, ?_⟩) ?_ ?_
  rotate_left
  · intro w'
    go_simp
    with_reducible rfl
  rotate_left
  · simp only [Act.put, List.setIfInBounds_toArray, List.set_cons_zero, List.set_cons_succ, i64_w, i32_w]
    rfl
  refine pure_ (i := 11) (N := some 48) (v := ?_) (a' := ?_) #[true, true, true, true, true, true, true, true, true, true, true, true, false, false, false, false] rfl rfl (by kernel_rfl) (fun _ _ _ h => h) (Or.inl ⟨by rfl, ?_⟩) ?_ ?_
  rotate_left
  · intro w'
    go_simp
    with_reducible rfl
  rotate_left
  · simp only [Act.put, List.setIfInBounds_toArray, List.set_cons_zero, List.set_cons_succ, i64_w, i32_w]
    rfl
  refine take_ (i := 12) (N := some 49) (v := ?_) (a' := ?_) #[true, true, true, true, true, true, true, true, true, true, true, true, true, false, false, false] rfl rfl (by kernel_rfl) (fun _ _ _ h => h) (Or.inl ⟨by rfl, ?_⟩) hHeld ?_ ?_
  rotate_left
  · rintro w' s0
    go_simp
    with_reducible rfl
  rotate_left
  · simp only [Act.put, List.setIfInBounds_toArray, List.set_cons_zero, List.set_cons_succ, i64_w, i32_w]
    rfl
  refine pure_ (i := 13) (N := some 50) (v := ?_) (a' := ?_) #[true, true, true, true, true, true, true, true, true, true, true, true, true, true, false, false] rfl rfl (by kernel_rfl) (fun _ _ _ h => h) (Or.inl ⟨by rfl, ?_⟩) ?_ ?_
  rotate_left
  · intro w'
    go_simp
    with_reducible rfl
  rotate_left
  · simp only [Act.put, List.setIfInBounds_toArray, List.set_cons_zero, List.set_cons_succ, i64_w, i32_w]
    rfl
  refine pure_ (i := 14) (N := some 51) (v := .slice (some ⟨g, os, none⟩) (on - tn) (cc - sn - tn)) (a' := ?_) #[true, true, true, true, true, true, true, true, true, true, true, true, true, true, true, false] rfl rfl (by kernel_rfl) (fun _ _ _ h => h) (Or.inl ⟨by rfl, ?_⟩) ?_ ?_
  · intro w'
    go_simp
  rotate_left
  · simp only [Act.put, List.setIfInBounds_toArray, List.set_cons_zero, List.set_cons_succ, i64_w, i32_w]
    rfl
  obtain ⟨g', c2', hcell', hcc', _, hbg', hl', ⟨cells', hblk⟩, hcells, hwr⟩ := S_row S1.out jx hj k7
  have hcell2 := hcell
  replace hcell2 : w7.cell? ((⟨gm, 0, none⟩ : Addr).add jx) = some (.slice (some ⟨g, 0, none⟩) M[jx].length cc) := HW7.out hcell2
  obtain ⟨eg, -, -⟩ := Value.slice.inj (Option.some.inj (hcell'.symm.trans hcell2))
  have eg' : g' = g := congrArg Addr.block (Option.some.inj eg)
  subst eg'
  have hpl : ((M[jx].drop (sn + tn)).take (on - tn)).length = on - tn := by simp; omega
  generalize hpv : (M[jx].drop (sn + tn)).take (on - tn) = part at hpl
  have hmin : min (on - tn) (nn - dn) = on - tn := by have := q5.out; omega
  have hpc : ∀ j, j < on - tn → w7.cell? ⟨g', os + j, none⟩ = some (.int .u8 (part.getD j 0)) := fun j hj_ => by
    have ho_ := hos (by omega)
    rw [ho_, (hcells (sn + tn + j) (by omega)).1, ← hpv]
    simp [List.getD_eq_getElem?_getD, List.getElem?_take, List.getElem?_drop, hj_, List.getElem?_eq_getElem (show sn + tn + j < M[jx].length by omega)]
  refine last_ (i := 15) (N := some 52) #[true, true, true, true, true, true, true, true, true, true, true, true, true, true, true, true] rfl rfl (by kernel_rfl) (by decide) (fun K hK => ?_)
  refine copy_wp (s := .tmp 44) (x := .tmp 51) (t := 29) (t' := 29) (e := 5) rfl (by rfl) Try.underlying29 (by kernel_rfl) g' od (nn - dn) (cc - sn - dn) (by rfl) (some ⟨g', os, none⟩) (on - tn) (cc - sn - tn) (by rfl) part ?_ (fun j hj_ => ?_) (fun j hj_ => ?_) ?_
  · exact Kd.C_of_reads (enc := Value.int .u8) (d := (0 : Int)) (h1 := fun _ => rfl) ⟨hpl, by omega, fun _ => ⟨_, rfl, fun j hj_ => by rw [add_mk_]; exact hpc j hj_⟩⟩
  · have ho_ := hod (by omega)
    rw [(hcells (od + j) (by omega)).1]
    rfl
  · have ho_ := hod (by omega)
    exact (hcells (od + j) (by omega)).2
  rw [hmin, List.take_of_length_le (by omega)]
  obtain ⟨hS2, hg2⟩ : Kd.S (Kd.slice 5 (Kd.int .u8)) 29 (w7.setCells g' od (part.map (Value.int .u8))) base ok (.slice (some ⟨gm, 0, none⟩) M.length c9_) (M.set jx (over_ M[jx] (sn + dn) part)) ∧ w7.grownBy (w7.setCells g' od (part.map (Value.int .u8))) (some g') := by
    by_cases hlu : dn < nn
    · rw [← hod hlu]
      exact hwr od part (by rw [hod hlu]; have := q5.out; omega)
    · obtain rfl : part = [] := List.eq_nil_of_length_eq_zero (by have := q5.out; omega)
      rw [over_nil, List.set_getElem_self]
      exact ⟨S1.out, World.grownBy.refl _ _⟩
  refine hK.out _ _ ?_
  clear hK K hwr hcells hcell' hHeld hpc hcell hcell2
  refine done_ (by kernel_rfl) ?_
  generalize w7.setCells g' od (part.map (Value.int .u8)) = w8 at hS2 hg2 ⊢
  replace G1 := Aside0.mk (blk_grown G1.out hg2 (fun e_ => blk_neq_ G1.out hblk (by decide) (Option.some.inj e_)))
  replace BW2 := Aside0.mk (blk_grown BW2.out hg2 (fun e_ => blk_neq_ BW2.out hblk (by decide) (Option.some.inj e_)))
  replace HK0 := Aside0.mk (Keep.trans HK0.out (Keep.row hg2 hblk (Or.inr rfl)))
  replace HB0 := Aside0.mk (Below.trans HB0.out (below_of_grown (Below.refl base _) hg2 hbg' (Nat.le_trans hbase HW.out)))
  replace HW := Aside0.mk (Nat.le_trans HW.out hg2.size)
  replace S1 := Aside0.mk hS2
  clear q6 hS2 hg2 hblk hbg' hl' eod eos hod hos hoff hcc hcc' q1 q2 q3 q4
  go_wp2_with fail
  refine start_ (n := 15) (S := fun w' => w'.cell? ⟨g13_, 0, none⟩ = some (.int .i64 (jx : Int)) ∧ w'.cell? ⟨g13_, 1, none⟩ = some (.int .i64 (sn : Int)) ∧ w'.cell? ⟨g13_, 2, none⟩ = some (.int .i64 (nn : Int)) ∧ w'.cell? ⟨g13_, 3, none⟩ = some (.int .i64 c') ∧ w'.cell? ⟨gb, 6, none⟩ = some (.int .i64 (tn : Int))) (ds := [14]) #[false, false, false, false, false, false, false, false, false, false, false, false, false, false, false] (by kernel_rfl) rfl rfl ⟨(blk_cell BW2.out 0).trans rfl, (blk_cell BW2.out 1).trans rfl, (blk_cell BW2.out 2).trans rfl, (blk_cell BW2.out 3).trans rfl, (blk_cell G1.out 6).trans rfl⟩ (fun hHeld => ?_)
  replace G1 := Aside0.mk (blk_drew G1.out)
  replace S1 := Aside0.mk (Kd.S_drew S1.out)
  replace BW2 := Aside0.mk (blk_drew BW2.out)
  replace HB0 := Aside0.mk (below_drew1 HB0.out)
  replace HK0 := Aside0.mk (show Keep w w8.drew gb from fun k c t h1 h2 h3 h4 => blk_drew (HK0.out k c t h1 h2 h3 h4))
  replace HW := Aside0.mk (show w.heap.size ≤ w8.drew.heap.size from HW.out)
  generalize w8.drew = w9 at G1 S1 BW2 HB0 HK0 HW hHeld ⊢
  refine pure_ (i := 0) (N := some 53) (v := ?_) (a' := ?_) #[true, false, false, false, false, false, false, false, false, false, false, false, false, false, false] rfl rfl (by kernel_rfl) (fun _ _ _ h => h) (Or.inl ⟨by rfl, ?_⟩) ?_ ?_
  rotate_left
  · intro w'
    go_simp
    with_reducible rfl
  rotate_left
  · simp only [Act.put, List.setIfInBounds_toArray, List.set_cons_zero, List.set_cons_succ, i64_w, i32_w]
    rfl
  refine pure_ (i := 1) (N := some 54) (v := ?_) (a' := ?_) #[true, true, false, false, false, false, false, false, false, false, false, false, false, false, false] rfl rfl (by kernel_rfl) (fun _ _ _ h => h) (Or.inl ⟨by rfl, ?_⟩) ?_ ?_
  rotate_left
  · intro w'
    go_simp
    with_reducible rfl
  rotate_left
  · simp only [Act.put, List.setIfInBounds_toArray, List.set_cons_zero, List.set_cons_succ, i64_w, i32_w]
    rfl
  refine take_ (i := 2) (N := some 55) (v := ?_) (a' := ?_) #[true, true, true, false, false, false, false, false, false, false, false, false, false, false, false] rfl rfl (by kernel_rfl) (fun _ _ _ h => h) (Or.inl ⟨by rfl, ?_⟩) hHeld ?_ ?_
  rotate_left
  · rintro w' ⟨s0, s1, s2, s3, s4⟩
    go_simp
    with_reducible rfl
  rotate_left
  · simp only [Act.put, List.setIfInBounds_toArray, List.set_cons_zero, List.set_cons_succ, i64_w, i32_w]
    rfl
  refine pure_ (i := 3) (N := some 56) (v := ?_) (a' := ?_) #[true, true, true, true, false, false, false, false, false, false, false, false, false, false, false] rfl rfl (by kernel_rfl) (fun _ _ _ h => h) (Or.inl ⟨by rfl, ?_⟩) ?_ ?_
  rotate_left
  · intro w'
    go_simp
    with_reducible rfl
  rotate_left
  · simp only [Act.put, List.setIfInBounds_toArray, List.set_cons_zero, List.set_cons_succ, i64_w, i32_w]
    rfl
  refine pure_ (i := 4) (N := some 57) (v := ?_) (a' := ?_) #[true, true, true, true, true, false, false, false, false, false, false, false, false, false, false] rfl rfl (by kernel_rfl) (fun _ _ _ h => h) (Or.inl ⟨by rfl, ?_⟩) ?_ ?_
  rotate_left
  · intro w'
    go_simp
    with_reducible rfl
  rotate_left
  · simp only [Act.put, List.setIfInBounds_toArray, List.set_cons_zero, List.set_cons_succ, i64_w, i32_w]
    rfl
  refine pure_ (i := 5) (N := some 58) (v := ?_) (a' := ?_) #[true, true, true, true, true, true, false, false, false, false, false, false, false, false, false] rfl rfl (by kernel_rfl) (fun _ _ _ h => h) (Or.inl ⟨by rfl, ?_⟩) ?_ ?_
  rotate_left
  · intro w'
    go_simp
    with_reducible rfl
  rotate_left
  · simp only [Act.put, List.setIfInBounds_toArray, List.set_cons_zero, List.set_cons_succ, i64_w, i32_w]
    rfl
  refine take_ (i := 6) (N := some 59) (v := ?_) (a' := ?_) #[true, true, true, true, true, true, true, false, false, false, false, false, false, false, false] rfl rfl (by kernel_rfl) (fun _ _ _ h => h) (Or.inl ⟨by rfl, ?_⟩) hHeld ?_ ?_
  rotate_left
  · rintro w' ⟨s0, s1, s2, s3, s4⟩
    go_simp
    with_reducible rfl
  rotate_left
  · simp only [Act.put, List.setIfInBounds_toArray, List.set_cons_zero, List.set_cons_succ, i64_w, i32_w]
    rfl
  refine pure_ (i := 7) (N := some 60) (v := ?_) (a' := ?_) #[true, true, true, true, true, true, true, true, false, false, false, false, false, false, false] rfl rfl (by kernel_rfl) (fun _ _ _ h => h) (Or.inl ⟨by rfl, ?_⟩) ?_ ?_
  rotate_left
  · intro w'
    go_simp
    with_reducible rfl
  rotate_left
  · simp only [Act.put, List.setIfInBounds_toArray, List.set_cons_zero, List.set_cons_succ, i64_w, i32_w]
    rfl
  have e2 := e1.out
  refine pure_ (i := 8) (N := some 61) (v := .int .i64 (dn : Int)) (a' := ?_) #[true, true, true, true, true, true, true, true, true, false, false, false, false, false, false] rfl rfl (by kernel_rfl) (fun _ _ _ h => h) (Or.inl ⟨by rfl, ?_⟩) ?_ ?_
  · intro w'
    go_simp
    exact (i64_w _).trans e2
  rotate_left
  · simp only [Act.put, List.setIfInBounds_toArray, List.set_cons_zero, List.set_cons_succ, i64_w, i32_w]
    rfl
  clear e2
  refine pure_ (i := 9) (N := some 62) (v := ?_) (a' := ?_) #[true, true, true, true, true, true, true, true, true, true, false, false, false, false, false] rfl rfl (by kernel_rfl) (fun _ _ _ h => h) (Or.inl ⟨by rfl, ?_⟩) ?_ ?_
  rotate_left
  · intro w'
    go_simp
    with_reducible rfl
  rotate_left
  · simp only [Act.put, List.setIfInBounds_toArray, List.set_cons_zero, List.set_cons_succ, i64_w, i32_w]
    rfl
  refine pure_ (i := 10) (N := some 63) (v := ?_) (a' := ?_) #[true, true, true, true, true, true, true, true, true, true, true, false, false, false, false] rfl rfl (by kernel_rfl) (fun _ _ _ h => h) (Or.inl ⟨by rfl, ?_⟩) ?_ ?_
  rotate_left
  · intro w'
    go_simp
    with_reducible rfl
  rotate_left
  · simp only [Act.put, List.setIfInBounds_toArray, List.set_cons_zero, List.set_cons_succ, i64_w, i32_w]
    rfl
  refine one_ (i := 11) (N := none) #[true, true, true, true, true, true, true, true, true, true, true, true, false, false, false] rfl rfl (by kernel_rfl) (by decide) (fun K hK => ?_)
  obtain ⟨qc0, qc1, qc2, qc3, qc4, qc5, qc6, qf0, qf1, qf2, qf3, qf4, qf5, qf6⟩ := zc7 G1
  have zl_ := blk_lt G1.out
  refine stD_ (by rfl) rfl (w1 := (World.setCell (World.setCell (World.setCell (World.setCell w9 ⟨gb, 1, none⟩ (.int .i64 (jx : Int))) ⟨gb, 2, none⟩ (.int .i64 (sn : Int))) ⟨gb, 3, none⟩ (.int .i64 (nn : Int))) ⟨gb, 4, none⟩ (.int .i64 c'))) ?hr (blk_put (cs' := #[(.slice (some ⟨gm, 0, none⟩) M.length c9_), (.int .i64 (jx : Int)), (.int .i64 (sn : Int)), (.int .i64 (nn : Int)), (.int .i64 c'), (.int .i64 fr), (.int .i64 (tn : Int))]) (blk_put (cs' := #[(.slice (some ⟨gm, 0, none⟩) M.length c9_), (.int .i64 (jx : Int)), (.int .i64 (sn : Int)), (.int .i64 (nn : Int)), (.int .i64 c), (.int .i64 fr), (.int .i64 (tn : Int))]) (blk_put (cs' := #[(.slice (some ⟨gm, 0, none⟩) M.length c9_), (.int .i64 (jx : Int)), (.int .i64 (sn : Int)), (.int .i64 (on : Int)), (.int .i64 c), (.int .i64 fr), (.int .i64 (tn : Int))]) (blk_put (cs' := #[(.slice (some ⟨gm, 0, none⟩) M.length c9_), (.int .i64 (jx : Int)), (.int .i64 s), (.int .i64 (on : Int)), (.int .i64 c), (.int .i64 fr), (.int .i64 (tn : Int))]) G1.out 1 (.int .i64 (jx : Int)) rfl) 2 (.int .i64 (sn : Int)) rfl) 3 (.int .i64 (nn : Int)) rfl) 4 (.int .i64 c') rfl) (grown_set1 (grown_set1 (grown_set1 (grown_set1 (World.grownBy.refl _ _) 1 (.int .i64 (jx : Int))) 2 (.int .i64 (sn : Int))) 3 (.int .i64 (nn : Int))) 4 (.int .i64 c')) ?_
  case hr => first | (go_simp; done) | (go_simp; rfl)
  intro w10 hb_ hg_
  clear qc0 qc1 qc2 qc3 qc4 qc5 qc6 qf0 qf1 qf2 qf3 qf4 qf5 qf6 zl_ hHeld
  replace S1 := Aside0.mk (Kd.S_mono (Kd.S_grown (Kd.S_types S1.out G1.out (by decide)) hg_ (fun k_ hk_ e_ => hk_.2 (Option.some.inj e_))) (fun _ h_ => h_.1))
  replace BW2 := Aside0.mk (blk_grown BW2.out hg_ (fun e_ => absurd (Option.some.inj e_) (by have := HG.out; have := N13.out; omega)))
  replace HB0 := Aside0.mk (Below.trans HB0.out (below_of_grown (Below.refl base _) hg_ hbG (Nat.le_trans hbase HW.out)))
  replace HK0 := Aside0.mk (Keep.trans HK0.out (Keep.own hg_))
  replace HW := Aside0.mk (Nat.le_trans HW.out hg_.size)
  replace G1 := Aside0.mk hb_
  clear hb_ hg_
  refine hK.out _ _ ⟨(blk_cell BW2.out 0).trans rfl, (blk_cell BW2.out 1).trans rfl, (blk_cell BW2.out 2).trans rfl, (blk_cell BW2.out 3).trans rfl, (blk_cell G1.out 6).trans rfl⟩ (fun hHeld => ?_)
  clear hK K
  refine pure_ (i := 12) (N := some 64) (v := ?_) (a' := ?_) #[true, true, true, true, true, true, true, true, true, true, true, true, true, false, false] rfl rfl (by kernel_rfl) (fun _ _ _ h => h) (Or.inl ⟨by rfl, ?_⟩) ?_ ?_
  rotate_left
  · intro w'
    go_simp
    with_reducible rfl
  rotate_left
  · simp only [Act.put, List.setIfInBounds_toArray, List.set_cons_zero, List.set_cons_succ, i64_w, i32_w]
    rfl
  refine pure_ (i := 13) (N := some 65) (v := ?_) (a' := ?_) #[true, true, true, true, true, true, true, true, true, true, true, true, true, true, false] rfl rfl (by kernel_rfl) (fun _ _ _ h => h) (Or.inl ⟨by rfl, ?_⟩) ?_ ?_
  rotate_left
  · intro w'
    go_simp
    with_reducible rfl
  rotate_left
  · simp only [Act.put, List.setIfInBounds_toArray, List.set_cons_zero, List.set_cons_succ, i64_w, i32_w]
    rfl
  refine last_ (i := 14) (N := none) #[true, true, true, true, true, true, true, true, true, true, true, true, true, true, true] rfl rfl (by kernel_rfl) (by decide) (fun K hK => ?_)
  obtain ⟨qc0, qc1, qc2, qc3, qc4, qc5, qc6, qf0, qf1, qf2, qf3, qf4, qf5, qf6⟩ := zc7 G1
  have zl_ := blk_lt G1.out
  refine stD_ (by rfl) rfl (w1 := (World.setCell w10 ⟨gb, 6, none⟩ (.int .i64 (dn : Int)))) ?hr (blk_put (cs' := #[(.slice (some ⟨gm, 0, none⟩) M.length c9_), (.int .i64 (jx : Int)), (.int .i64 (sn : Int)), (.int .i64 (nn : Int)), (.int .i64 c'), (.int .i64 fr), (.int .i64 (dn : Int))]) G1.out 6 (.int .i64 (dn : Int)) rfl) (grown_set1 (World.grownBy.refl _ _) 6 (.int .i64 (dn : Int))) ?_
  case hr => first | (go_simp; done) | (go_simp; rfl)
  intro w11 hb_ hg_
  clear qc0 qc1 qc2 qc3 qc4 qc5 qc6 qf0 qf1 qf2 qf3 qf4 qf5 qf6 zl_ hHeld
  replace S1 := Aside0.mk (Kd.S_mono (Kd.S_grown (Kd.S_types S1.out G1.out (by decide)) hg_ (fun k_ hk_ e_ => hk_.2 (Option.some.inj e_))) (fun _ h_ => h_.1))
  replace BW2 := Aside0.mk (blk_grown BW2.out hg_ (fun e_ => absurd (Option.some.inj e_) (by have := HG.out; have := N13.out; omega)))
  replace HB0 := Aside0.mk (Below.trans HB0.out (below_of_grown (Below.refl base _) hg_ hbG (Nat.le_trans hbase HW.out)))
  replace HK0 := Aside0.mk (Keep.trans HK0.out (Keep.own hg_))
  replace HW := Aside0.mk (Nat.le_trans HW.out hg_.size)
  replace G1 := Aside0.mk hb_
  clear hb_ hg_
  refine hK.out _ _ ?_
  clear hK K
  refine done_ (by kernel_rfl) ?_
  go_wp2_with fail
  go_ret
  have hgj : M.getD ((jx : Int)).toNat [] = M[jx] := getD_at hj
  have hdn' : (dn : Int) = (tn : Int) + (Nn : Int) := by have := hdn.out; omega
  have t1 : ((sn : Int) + ((tn : Int) + (Nn : Int))).toNat = sn + dn := by have := hdn.out; omega
  have t2 : ((sn : Int) + (tn : Int)).toNat = sn + tn := by omega
  have t3 : ((on : Int) - (tn : Int)).toNat = on - tn := by omega
  have hg1 := G1.out
  have hs1 := S1.out
  rw [← hpv] at hs1
  rw [hdn'] at hg1
  exact ⟨rfl, some ⟨gm, 0, none⟩, c9_, hg1, by rw [hgj, t1, t2, t3, Int.toNat_natCast]; exact hs1, HB0.out, HK0.out⟩

/-- What widen leaves: the memory, the window, the hole, and whether it could be. -/
def widP (m : List (List Int)) (ix : Nat) (s n c fr tt N : Int) : List (List Int) × Int × Int × Int × Int × Int × Int × Bool :=
  if 64 < N then (m, ix, s, n, c, fr, tt, false)
  else if (appP m ix s n c (List.replicate N.toNat 0)).2.2.2.2.2 = true then
    ((appP m ix s n c (List.replicate N.toNat 0)).1.set (appP m ix s n c (List.replicate N.toNat 0)).2.1.toNat (over_ ((appP m ix s n c (List.replicate N.toNat 0)).1.getD (appP m ix s n c (List.replicate N.toNat 0)).2.1.toNat []) ((appP m ix s n c (List.replicate N.toNat 0)).2.2.1 + (tt + N)).toNat ((((appP m ix s n c (List.replicate N.toNat 0)).1.getD (appP m ix s n c (List.replicate N.toNat 0)).2.1.toNat []).drop ((appP m ix s n c (List.replicate N.toNat 0)).2.2.1 + tt).toNat).take (n - tt).toNat)),
      (appP m ix s n c (List.replicate N.toNat 0)).2.1, (appP m ix s n c (List.replicate N.toNat 0)).2.2.1, (appP m ix s n c (List.replicate N.toNat 0)).2.2.2.1, (appP m ix s n c (List.replicate N.toNat 0)).2.2.2.2.1, fr, tt + N, true)
  else ((appP m ix s n c (List.replicate N.toNat 0)).1, ix, s, n, c, fr, tt, false)

set_option maxHeartbeats 4000000 in
set_option maxRecDepth 100000 in
theorem widen_at {M : List (List Int)} {a' s' n' c' f' t' : Int} {b : Bool} (gb mc : Nat) (A : Option Addr) (m : List (List Int)) (ix : Nat) (s n c fr tt N : Int) (base : Nat) (ok : Nat → Prop) (w : World) (hb : w.heap[gb]? = some (.cells #[.slice A m.length mc, .int .i64 (ix : Int), .int .i64 s, .int .i64 n, .int .i64 c, .int .i64 fr, .int .i64 tt] 34 (0, 0)))
    (hS : Kd.S (Kd.slice 5 (Kd.int .u8)) 29 w base ok (.slice A m.length mc) m) (h2 : 0 ≤ s) (h3 : 0 ≤ n) (h9 : n ≤ c) (hix : ix < m.length) (h4 : s + c ≤ (m[ix].length : Int)) (h5 : m[ix].length ≤ 64) (h6 : 0 < m[ix].length) (hm : m.length ≤ 16) (ht1 : 0 ≤ tt) (ht2 : tt ≤ n) (hN : 0 ≤ N) (hbase : base ≤ w.heap.size) (hbG : base ≤ gb) (hok : ∀ k, w.heap.size ≤ k → ok k) (hP : widP m ix s n c fr tt N = (M, a', s', n', c', f', t', b)) :
    Calls Try.prog 147 #[.pointer (some ⟨gb, 0, none⟩), .int .i64 N] w fun e w' => e = .returned (.bool b) ∧ ∃ A' cc, w'.heap[gb]? = some (.cells #[.slice A' M.length cc, .int .i64 a', .int .i64 s', .int .i64 n', .int .i64 c', .int .i64 f', .int .i64 t'] 34 (0, 0)) ∧ Kd.S (Kd.slice 5 (Kd.int .u8)) 29 w' base ok (.slice A' M.length cc) M ∧ Below base w w' ∧ Keep w w' gb := by
  unfold widP at hP
  by_cases hN2 : 64 < N
  · rw [if_pos hN2] at hP
    simp only [Prod.mk.injEq] at hP
    obtain ⟨rfl, rfl, rfl, rfl, rfl, rfl, rfl, rfl⟩ := hP
    refine (widen_no gb mc A m ix s n c fr tt N base ok w hb hS h2 h3 h9 hix h4 h5 h6 hm ht1 ht2 hN hbase hbG hok hN2).mono ?_
    rintro e w' ⟨rfl, hB⟩
    exact ⟨rfl, A, mc, blk_below hb hB, Kd.S_below hS hB, Below.mono hB hbase, Keep.below hB⟩
  · rw [if_neg hN2] at hP
    obtain ⟨⟨M1, a1, s1, n1, c1, b1⟩, hp⟩ : ∃ p, appP m ix s n c (List.replicate N.toNat 0) = p := ⟨_, rfl⟩
    rw [hp] at hP
    cases b1 with
    | true =>
      rw [if_pos rfl] at hP
      simp only [Prod.mk.injEq] at hP
      obtain ⟨rfl, rfl, rfl, rfl, rfl, rfl, rfl, rfl⟩ := hP
      refine (widen_done gb mc A m ix s n c fr tt N base ok w hb hS h2 h3 h9 hix h4 h5 h6 hm ht1 ht2 hN hbase hbG hok _ rfl (by omega) hp).mono ?_
      rintro e w' ⟨rfl, A', cc, h1, h2', h3', h4'⟩
      exact ⟨rfl, A', cc, by rw [List.length_set]; exact h1, by rw [List.length_set]; exact h2', h3', h4'⟩
    | false =>
      rw [if_neg (by simp)] at hP
      simp only [Prod.mk.injEq] at hP
      obtain ⟨rfl, rfl, rfl, rfl, rfl, rfl, rfl, rfl⟩ := hP
      exact widen_fell gb mc A m ix s n c fr tt N base ok w hb hS h2 h3 h9 hix h4 h5 h6 hm ht1 ht2 hN hbase hbG hok _ rfl (by omega) hp
end Go.Proofs.Ytmkcbbbknbahgaa.P
