/- This text proves the given statement of the law FnLogs: for every input the law returns true and its arguments read afterwards as before. Conditions: those of the given row and no other. -/
import Derived.Test.YtoghambpbpgodaaDoorCFnLogs4
import Derived.Lib.ConvBytes
import Derived.Laws.IdiomStrings
import Derived.Lib.EndianBits
import Derived.Test.YtoghambpbpgodaaDoorRows
import Derived.Test.YtoghambpbpgodaaDoorCards
import Derived.Test.YtoghambpbpgodaaDoorTie
import Derived.WalkKit
import Derived.ProofKit
import Derived.OpenShut
import Derived.ShutString
import Derived.ChangeOld
import Derived.Below
import Derived.SizedLaws
import Derived.Deep.DeepHandedRow
import Derived.Lib.LaidTab
namespace Go.Proofs.YtoghambpbpgodaaDoor.P
open Go.RowKit Go.Proofs.YtoghambpbpgodaaDoorW.PrintWords Go.Proofs.YtoghambpbpgodaaDoorW.PrintLast Go.Proofs.YtoghambpbpgodaaDoorW.PrintMore
set_option linter.unusedVariables false
set_option linter.unusedSimpArgs false

theorem Ter.if_eq {α : Type} {c : Prop} [Decidable c] {F G : Nat → Option α} {r : α} (h1 : c → Ter F r) (h2 : ¬ c → Ter G r) : Ter (fun k => if c then F k else G k) r := by
  by_cases h : c
  · exact Ter.ifp h (h1 h)
  · exact Ter.ifn h (h2 h)

theorem lIn_is (a b c : Int) : spec_l1In.f a b c = some (decide (b ≤ a) && decide (a ≤ c)) := by
  unfold spec_l1In.f
  by_cases h1 : b ≤ a <;> by_cases h2 : a ≤ c <;> simp [h1, h2] <;> omega

theorem lWithin_is (a b c : Int) : impl_within.f a b c = some (decide (b ≤ a) && decide (a ≤ c)) := by
  unfold impl_within.f
  by_cases h1 : b ≤ a <;> by_cases h2 : a ≤ c <;> simp [h1, h2] <;> omega

theorem drop_at {l : Bs} {i : Nat} (h : i < l.length) : l.drop i = l[i] :: l.drop (i + 1) := List.drop_eq_getElem_cons h

theorem tmod_is {a b : Int} (h : 0 ≤ a) : Int.tmod a b = a % b := Int.tmod_eq_emod_of_nonneg h

theorem sum_step {h : Int} {x : UInt8} (h0 : 0 ≤ h) (h1 : h < 999979) : Int.tmod (wrap64 ((wrap64 ((wrap64 (41 * h)) + (wrap64 (x.toNat : Int)))) + 1)) 999979 = (41 * h + (x.toNat : Int) + 1) % 999979 := by
  have hx := byte_lt x
  rw [w64 (n := 41 * h) (by omega) (by omega), w64 (n := (x.toNat : Int)) (by omega) (by omega), w64 (n := 41 * h + (x.toNat : Int)) (by omega) (by omega), w64 (by omega) (by omega), tmod_is (by omega)]

theorem checksum_is {l : Bs} (hl : l.length ≤ 1152921504606846976) : Ter (fun k => impl_checksum.f k (bs l)) (sumL 7 l) := by
  unfold impl_checksum.f
  rw [bs_size]
  have key := down_ (Q := fun i => ∀ h : Int, 0 ≤ h → h < 999979 → Ter (fun k => impl_checksum.l0 k (bs l) h (l.length : Int) (i : Int)) (sumL h (l.drop i))) l.length
    (fun h _ _ => Ter.succ (by simp only [impl_checksum.l0]; refine Ter.ifn (by omega) ((Ter.ret _).eq ?_); rw [List.drop_length]; rfl))
    (fun i hi ih h h0 h1 => by
      refine Ter.succ ?_
      simp only [impl_checksum.l0]
      refine Ter.ifp (by omega) (Ter.ifp (by omega) (Ter.ifp (by rw [bs_size]; omega) ?_))
      rw [bs_bt hi, w64s hi (by omega), sum_step h0 h1, drop_at hi]
      exact ih _ (by omega) (by omega)) 0 (by omega)
  exact key 7 (by omega) (by omega)

theorem l1Sum_is {l : Bs} (hl : l.length ≤ 1152921504606846976) : Ter (fun k => spec_l1Sum.f k (bs l)) (sumL 7 l) := by
  unfold spec_l1Sum.f
  have key := down_ (Q := fun i => ∀ h : Int, 0 ≤ h → h < 999979 → Ter (fun k => spec_l1Sum.l0 k (bs l) h (i : Int)) (sumL h (l.drop i))) l.length
    (fun h _ _ => Ter.succ (by simp only [spec_l1Sum.l0]; refine Ter.ifn (by rw [bs_size]; omega) ((Ter.ret _).eq ?_); rw [List.drop_length]; rfl))
    (fun i hi ih h h0 h1 => by
      refine Ter.succ ?_
      simp only [spec_l1Sum.l0]
      refine Ter.ifp (by rw [bs_size]; omega) (Ter.ifp (by omega) ?_)
      rw [bs_bt hi, w64s hi (by omega), sum_step h0 h1, drop_at hi]
      exact ih _ (by omega) (by omega)) 0 (by omega)
  exact key 7 (by omega) (by omega)

theorem digit_cut : ∀ m : Nat, m < 10 → (⟨#[48, 49, 50, 51, 52, 53, 54, 55, 56, 57]⟩ : ByteArray).extract m (m + 1) = bs [UInt8.ofNat (48 + m)] := by
  intro m hm
  rw [show (⟨#[48, 49, 50, 51, 52, 53, 54, 55, 56, 57]⟩ : ByteArray) = bs [48, 49, 50, 51, 52, 53, 54, 55, 56, 57] from rfl, bs_cut]
  congr 1
  have : ∀ m : Fin 10, (([48, 49, 50, 51, 52, 53, 54, 55, 56, 57] : Bs).take (m.val + 1)).drop m.val = [UInt8.ofNat (48 + m.val)] := by decide
  exact this ⟨m, hm⟩

theorem itoa_small {n : Nat} (h : n < 10) : Lib.itoa (n : Int) = [UInt8.ofNat (48 + n)] := by
  unfold Lib.itoa
  rw [if_neg (by omega), Int.toNat_natCast, Lib.decDigits, dif_pos h]

theorem itoa_big {n : Nat} (h : ¬ n < 10) : Lib.itoa (n : Int) = Lib.itoa ((n / 10 : Nat) : Int) ++ [UInt8.ofNat (48 + n % 10)] := by
  unfold Lib.itoa
  rw [if_neg (by omega), if_neg (by omega), Int.toNat_natCast, Int.toNat_natCast, Lib.decDigits, dif_neg h]

theorem l1Num_is (n : Nat) (hn : n ≤ 1152921504606846976) : Ter (fun k => spec_l1Num.f k (n : Int)) (bs (Lib.itoa (n : Int))) := by
  induction n using Nat.strongRecOn with
  | _ n ih =>
    refine Ter.succ ?_
    simp only [spec_l1Num.f]
    refine Ter.ifn (by omega) ?_
    by_cases h : n < 10
    · refine Ter.ifp (by omega) ?_
      rw [w64s (n := 10) h (by omega)]
      refine Ter.ifp (by omega) (Ter.ifp (by omega) (Ter.ifp (by omega) ((Ter.ret _).eq ?_)))
      rw [Int.toNat_natCast, Int.toNat_natCast, digit_cut n h, itoa_small h]
    · refine Ter.ifn (by omega) ?_
      have e1 : wrap64 (Int.tdiv (n : Int) 10) = ((n / 10 : Nat) : Int) := by
        rw [Int.tdiv_eq_ediv_of_nonneg (by omega), w64 (by omega) (by omega)]
        omega
      have e2 : Int.tmod (n : Int) 10 = ((n % 10 : Nat) : Int) := by
        rw [tmod_is (by omega)]
        omega
      rw [e1, e2, w64s (n := 10) (show n % 10 < 10 by omega) (by omega)]
      refine (ih (n / 10) (by omega) (by omega)).bind ?_
      refine Ter.ifp (by omega) (Ter.ifp (by omega) (Ter.ifp (by omega) ?_))
      rw [Int.toNat_natCast, Int.toNat_natCast, digit_cut _ (by omega)]
      have hlen := itoa_len (n := ((n / 10 : Nat) : Int)) (by omega) 18 (by omega)
      refine Ter.ifp (by rw [bs_size, bs_size]; simp only [List.length_cons, List.length_nil]; omega) ((Ter.ret _).eq ?_)
      rw [bs_app, itoa_big h]

theorem Itoa_is (n : Int) (h0 : -9223372036854775808 ≤ n) (h1 : n ≤ 9223372036854775807) : strconv_Itoa.f n = some (bs (Lib.itoa n)) := by
  unfold strconv_Itoa.f
  rw [if_pos ⟨h0, h1⟩]
  rfl

theorem l12Bytes_is {l : Bs} (m : Nat) (hl : l.length ≤ 1152921504606846976) : Ter (fun k => spec_l12Bytes.f k (bs l) (m : Int)) (plainB m l) := by
  unfold spec_l12Bytes.f
  have key := down_ (Q := fun i => Ter (fun k => spec_l12Bytes.l0 k (bs l) (m : Int) (i : Int)) ((l.drop i).all (fun x => decide (32 ≤ x.toNat) && decide (x.toNat ≤ 126) && x != 35) && decide (l.length ≤ m))) l.length
    (Ter.succ (by
      simp only [spec_l12Bytes.l0]
      refine Ter.ifn (by rw [bs_size]; omega) ((Ter.ret _).eq ?_)
      rw [List.drop_length, bs_size]
      by_cases h : l.length ≤ m <;> simp [h]))
    (fun i hi ih => by
      refine Ter.succ ?_
      simp only [spec_l12Bytes.l0]
      refine Ter.ifp (by rw [bs_size]; omega) (Ter.ifp (by omega) ?_)
      have hx := byte_lt l[i]
      rw [bs_bt hi, w64s hi (by omega), w64 (n := ((l[i].toNat : Nat) : Int)) (by omega) (by omega), lIn_is, drop_at hi, List.all_cons]
      by_cases h1 : 32 ≤ l[i].toNat ∧ l[i].toNat ≤ 126
      · simp only [Option.bind_some]
        refine Ter.ifp (by simp; omega) ?_
        by_cases h2 : l[i] = 35
        · refine Ter.ifp (by rw [h2]; rfl) ((Ter.ret _).eq ?_)
          simp [h2]
        · refine Ter.ifn (fun e => h2 (byte_eq (b := 35) e)) (ih.eq ?_)
          have e3 : (l[i] != 35) = true := by simpa using h2
          simp [h1, e3]
      · simp only [Option.bind_some]
        refine Ter.ifn (by simp; omega) ((Ter.ret _).eq ?_)
        have : (decide (32 ≤ l[i].toNat) && decide (l[i].toNat ≤ 126)) = false := by simp; omega
        simp [this]) 0 (by omega)
  exact key

theorem l1Stands_is {l : Bs} (b : UInt8) (hl : l.length ≤ 1152921504606846976) : Ter (fun k => spec_l1Stands.f k (bs l) (b.toNat : Int)) (l.contains b) := by
  unfold spec_l1Stands.f
  have key := down_ (Q := fun i => Ter (fun k => spec_l1Stands.l0 k (bs l) (b.toNat : Int) (i : Int)) ((l.drop i).contains b)) l.length
    (Ter.succ (by
      simp only [spec_l1Stands.l0]
      refine Ter.ifn (by rw [bs_size]; omega) ((Ter.ret _).eq ?_)
      rw [List.drop_length]
      rfl))
    (fun i hi ih => by
      refine Ter.succ ?_
      simp only [spec_l1Stands.l0]
      refine Ter.ifp (by rw [bs_size]; omega) (Ter.ifp (by omega) ?_)
      rw [bs_bt hi, w64s hi (by omega), drop_at hi, List.contains_cons]
      by_cases h2 : l[i] = b
      · refine Ter.ifp (by rw [h2]) ((Ter.ret _).eq ?_)
        simp [h2]
      · refine Ter.ifn (fun e => h2 (byte_eq e)) (ih.eq ?_)
        simp [Ne.symm h2]) 0 (by omega)
  exact key

theorem l12Record_is {c r : Bs} (hc : c.length ≤ 1152921504606846976) (hr : r.length ≤ 1152921504606846976) : Ter (fun k => spec_l12Record.f k (bs c) (bs r)) (okRec c r) := by
  unfold spec_l12Record.f okRec
  by_cases h0 : c = []
  · refine Ter.ifp (by rw [bs_toList, h0]) ((Ter.ret _).eq ?_)
    simp [h0]
  · refine Ter.ifn (by rw [bs_toList]; exact h0) ((l12Bytes_is 160 hc).bind ?_)
    have e0 : c.isEmpty = false := by simpa using h0
    by_cases h1 : plainB 160 c = true
    · refine Ter.ifp h1 ((l1Stands_is 64 hc).bind ?_)
      by_cases h2 : c.contains 64 = true
      · refine Ter.ifp h2 ((Ter.ret _).eq ?_)
        simp only [e0, h1, h2]
        rfl
      · refine Ter.ifn h2 ((l12Bytes_is 260 hr).bind ((Ter.ret _).eq ?_))
        simp only [e0, h1, Bool.not_eq_true] at h2 ⊢
        rw [h2]
        simp
    · refine Ter.ifn h1 ((Ter.ret _).eq ?_)
      simp only [Bool.not_eq_true] at h1
      simp [h1]

theorem any_is : ∀ (l cs : Bs), Lib.containsAny l cs = l.any (fun x => cs.contains x)
  | [], cs => rfl
  | x :: l, cs => by
    have ih := any_is l cs
    unfold Lib.containsAny at ih ⊢
    rw [List.any_cons, ← ih, Lib.indexAny]
    have := Lib.indexAny_ge cs l
    by_cases h : cs.contains x = true
    · rw [if_pos h, h]; rfl
    · rw [if_neg h]
      simp only [Bool.not_eq_true] at h
      rw [h]
      by_cases h2 : Lib.indexAny l cs = -1
      · simp [h2]
      · rw [if_neg (by simpa using h2)]
        simp only [Bool.false_or, decide_eq_decide]
        omega

theorem isPlain_is {l cs : Bs} (m : Nat) (hl : l.length ≤ 1152921504606846976) (hm : m ≤ 1000) (hc1 : cs.length ≤ 10) (hcs : ∀ b ∈ cs, b.toNat < 128) :
    Ter (fun k => impl_isPlain.f k (bs l) (m : Int) (bs cs)) (l.all (fun x => decide (32 ≤ x.toNat) && decide (x.toNat ≤ 126)) && decide (l.length ≤ m) && !l.any (fun x => cs.contains x)) := by
  unfold impl_isPlain.f
  rw [bs_size]
  have key := down_ (Q := fun i => (∀ x ∈ l.take i, x.toNat < 128) → Ter (fun k => impl_isPlain.l0 k (bs l) (m : Int) (bs cs) (l.length : Int) (i : Int)) ((l.drop i).all (fun x => decide (32 ≤ x.toNat) && decide (x.toNat ≤ 126)) && decide (l.length ≤ m) && !l.any (fun x => cs.contains x))) l.length
    (fun hp => Ter.succ (by
      simp only [impl_isPlain.l0]
      refine Ter.ifn (by omega) ?_
      rw [List.drop_length, bs_size]
      by_cases h : l.length ≤ m
      · refine Ter.ifp (by omega) ?_
        unfold strings_ContainsAny.f
        rw [bs_list, bs_list, bs_size, bs_size, if_pos ⟨by omega, by omega, by rw [List.take_length] at hp; exact hp, hcs⟩, any_is]
        refine (Ter.ret _).eq ?_
        simp [h]
      · refine Ter.ifn (by omega) ((Ter.ret _).eq ?_)
        simp [h]))
    (fun i hi ih hp => by
      refine Ter.succ ?_
      simp only [impl_isPlain.l0]
      refine Ter.ifp (by omega) (Ter.ifp (by omega) (Ter.ifp (by rw [bs_size]; omega) ?_))
      rw [bs_bt hi, w64s hi (by omega), drop_at hi, List.all_cons]
      by_cases h1 : (l[i].toNat : Int) < 32
      · refine Ter.ifp h1 ((Ter.ret _).eq ?_)
        have : decide (32 ≤ l[i].toNat) = false := by simp; omega
        simp [this]
      · refine Ter.ifn h1 ?_
        by_cases h2 : (l[i].toNat : Int) > 126
        · refine Ter.ifp h2 ((Ter.ret _).eq ?_)
          have : decide (l[i].toNat ≤ 126) = false := by simp; omega
          simp [this]
        · refine Ter.ifn h2 ((ih ?_).eq ?_)
          · intro x hx
            rw [← take_one hi, List.mem_append, List.mem_singleton] at hx
            rcases hx with hx | hx
            · exact hp x hx
            · subst hx; omega
          · have e1 : decide (32 ≤ l[i].toNat) = true := by simp; omega
            have e2 : decide (l[i].toNat ≤ 126) = true := by simp; omega
            simp [e1, e2]) 0 (by omega)
  exact key (by simp)

theorem plain_split (m : Nat) (l : Bs) : plainB m l = (l.all (fun x => decide (32 ≤ x.toNat) && decide (x.toNat ≤ 126)) && l.all (fun x => x != 35) && decide (l.length ≤ m)) := by
  unfold plainB
  congr 1
  induction l with
  | nil => rfl
  | cons x l ih =>
    have : ∀ a b c d : Bool, (a && b && (c && d)) = (a && c && (b && d)) := by decide
    rw [List.all_cons, List.all_cons, List.all_cons, ih, this]

theorem any_hash (l : Bs) : (!l.any (fun x => ([35] : Bs).contains x)) = l.all (fun x => x != 35) := by
  induction l with
  | nil => rfl
  | cons x l ih => simp only [List.any_cons, List.all_cons, ← ih, Bool.not_or]; congr 1; by_cases h : x = 35 <;> simp [h]

theorem any_both (l : Bs) : (!l.any (fun x => ([35, 64] : Bs).contains x)) = (l.all (fun x => x != 35) && !l.contains 64) := by
  induction l with
  | nil => rfl
  | cons x l ih =>
    by_cases h : x = 35
    · subst h; simp
    · by_cases h2 : x = 64
      · subst h2; simp
      · have this : ((64 : UInt8) == x) = false := by simpa using Ne.symm h2
        have e1 : ([35, 64] : Bs).contains x = false := by simp [h, h2]
        have e2 : (x != 35) = true := by simpa using h
        rw [List.any_cons, e1, List.all_cons, e2, show (x :: l).contains 64 = l.contains 64 by rw [List.contains_cons, this, Bool.false_or], Bool.false_or, Bool.true_and]
        exact ih

theorem IsValidRecord_is {c r : Bs} (hc : c.length ≤ 1152921504606846976) (hr : r.length ≤ 1152921504606846976) : Ter (fun k => impl_IsValidRecord.f k (bs c) (bs r)) (okRec c r) := by
  unfold impl_IsValidRecord.f okRec
  have e1 : Ter (fun k => impl_isCommand.f k (bs c)) (!c.isEmpty && plainB 160 c && !c.contains 64) := by
    unfold impl_isCommand.f
    by_cases h0 : c = []
    · refine Ter.ifp (by rw [bs_toList, h0]) ((Ter.ret _).eq ?_)
      simp [h0]
    · refine Ter.ifn (by rw [bs_toList]; exact h0) ?_
      rw [lit2]
      refine (isPlain_is 160 hc (by omega) (by simp) (by decide)).bind ((Ter.ret _).eq ?_)
      have e0 : c.isEmpty = false := by simpa using h0
      rw [any_both, plain_split, e0]
      exact (by decide : ∀ a b d e : Bool, (a && d && (b && e)) = (!false && (a && b && d) && e)) _ _ _ _
  refine e1.bind ?_
  by_cases h : (!c.isEmpty && plainB 160 c && !c.contains 64) = true
  · rw [h]
    refine Ter.ifp rfl ?_
    rw [lit1]
    refine (isPlain_is 260 hr (by omega) (by simp) (by decide)).bind ((Ter.ret _).eq ?_)
    rw [any_hash, plain_split, Bool.true_and]
    exact (by decide : ∀ a b d : Bool, (a && d && b) = (a && b && d)) _ _ _
  · simp only [Bool.not_eq_true] at h
    rw [h]
    exact Ter.ifn (by decide) ((Ter.ret _).eq rfl)

theorem l1Seal_is {l : Bs} (hl : l.length ≤ 1000000000) : Ter (fun k => spec_l1Seal.f k (bs l)) (bs (sealB l)) := by
  have hs := sumL_range l 7 (by omega) (by omega)
  obtain ⟨n, hn⟩ : ∃ n : Nat, sumL 7 l = (n : Int) := ⟨(sumL 7 l).toNat, by omega⟩
  have h2 := itoa_len hs.1 5 (by omega)
  unfold spec_l1Seal.f sealB
  refine Ter.ifp (by rw [bs_size]; omega) ((l1Sum_is (by omega)).bind ?_)
  rw [hn] at h2 ⊢
  refine (l1Num_is n (by omega)).bind ?_
  rw [lit1, bs_app]
  refine Ter.ifp (by rw [bs_size, bs_size]; simp only [List.length_append, List.length_cons, List.length_nil]; omega) ((Ter.ret _).eq ?_)
  rw [bs_app]
  simp

theorem line_app (k : Int) (c r : Bs) : ((((Lib.itoa k ++ [32]) ++ c) ++ [64]) ++ r) = bodyB k c r := by unfold bodyB; simp

theorem l12Line_is {c r : Bs} (k : Nat) (hk : k ≤ 1000) (hc : c.length ≤ 100000000) (hr : r.length ≤ 100000000) : Ter (fun n => spec_l12Line.f n (k : Int) (bs c) (bs r)) (bs (lineB (k : Int) c r)) := by
  have h2 := itoa_len (n := (k : Int)) (by omega) 3 (by omega)
  unfold spec_l12Line.f
  refine (l1Num_is k (by omega)).bind ?_
  simp only [lit1, bs_app, bs_size, List.length_append, List.length_cons, List.length_nil]
  refine Ter.ifp (by omega) (Ter.ifp (by omega) (Ter.ifp (by omega) (Ter.ifp (by omega) ?_)))
  rw [line_app]
  have h3 : (bodyB (k : Int) c r).length ≤ 1000000000 := by unfold bodyB; simp only [List.length_append, List.length_cons]; omega
  refine (l1Seal_is h3).bind ?_
  have h4 := seal_len (bodyB (k : Int) c r)
  rw [bs_size]
  exact Ter.ifp (by omega) ((Ter.ret _).eq (by rw [bs_app]; rfl))

theorem Contains_is (l : Bs) (b : UInt8) : strings_Contains.f (bs l) (⟨#[b]⟩ : ByteArray) = some (l.contains b) := by
  show some (decide (0 ≤ Lib.indexByte l b)) = _
  congr 1
  induction l with
  | nil => rfl
  | cons x l ih =>
    rw [List.contains_cons, ← ih, Lib.indexByte]
    have := Lib.indexByte_ge l b
    by_cases h : x = b
    · subst h; simp
    · have h1 : (x == b) = false := by simpa using h
      have h2 : (b == x) = false := by simpa using Ne.symm h
      rw [h1, h2]
      by_cases h3 : Lib.indexByte l b = -1
      · simp [h3]
      · have h4 : (Lib.indexByte l b == -1) = false := by simpa using h3
        rw [h4]
        simp only [Bool.false_eq_true, if_false, Bool.false_or, decide_eq_decide]
        omega

theorem AppendChecksum_is {l : Bs} (hl : l.length ≤ 1000000000) (hn : (35 : UInt8) ∉ l) : Ter (fun k => impl_AppendChecksum.f k (bs l)) (if (sealB l).length ≤ 4000 then (bs (sealB l), true) else (bs [], false)) := by
  have hs := sumL_range l 7 (by omega) (by omega)
  have h2 := itoa_len hs.1 5 (by omega)
  have h3 : (sealB l).length = l.length + 1 + (Lib.itoa (sumL 7 l)).length := by unfold sealB; simp only [List.length_append, List.length_cons]; omega
  have hj : l.length ≤ 4000 → Ter (fun k => impl_AppendChecksum.j0 k (bs l) false) (if (sealB l).length ≤ 4000 then (bs (sealB l), true) else (bs [], false)) := by
    intro h4
    refine Ter.succ ?_
    simp only [impl_AppendChecksum.j0]
    refine Ter.ifn (by decide) (Ter.ifp (by rw [bs_size]; omega) ((checksum_is (by omega)).bind ?_))
    rw [Itoa_is _ (by omega) (by omega)]
    simp only [Option.bind_some, lit1, lit0, bs_app, bs_size, List.length_append, List.length_cons, List.length_nil]
    refine Ter.ifp (by omega) ?_
    by_cases h5 : (sealB l).length ≤ 4000
    · rw [if_pos h5]
      refine Ter.ifn (by omega) ((Ter.ret _).eq ?_)
      unfold sealB
      simp
    · rw [if_neg h5]
      exact Ter.ifp (by omega) (Ter.ret _)
  unfold impl_AppendChecksum.f
  by_cases h4 : l.length ≤ 4000
  · refine Ter.ifn (by rw [bs_size]; omega) ?_
    rw [Contains_is]
    have : l.contains 35 = false := by simpa using hn
    rw [this]
    exact hj h4
  · refine Ter.ifp (by rw [bs_size]; omega) ?_
    refine Ter.succ ?_
    simp only [impl_AppendChecksum.j0]
    rw [if_neg (by omega)]
    exact Ter.ifp trivial (Ter.ret _)

theorem cut_no (l : Bs) (b : UInt8) : b ∉ (Lib.cut l [b]).1 := by
  by_cases hm : b ∈ l
  · have e := split_at hm
    rw [e, cut_app _ (not_ahead l)]
    exact not_ahead l
  · rw [cut_not hm]
    exact hm

theorem cut_len (l : Bs) (b : UInt8) : (Lib.cut l [b]).1.length ≤ l.length ∧ (Lib.cut l [b]).2.1.length ≤ l.length := by
  by_cases hm : b ∈ l
  · have e := split_at hm
    have e2 : Lib.cut l [b] = (ahead b l, behind b l, true) := by rw [e, cut_app _ (not_ahead l), ← e]
    have e3 := congrArg List.length e
    simp only [List.length_append, List.length_cons] at e3
    rw [e2]
    constructor <;> simp only [] <;> omega
  · rw [cut_not hm]
    simp

theorem Cut_is (l : Bs) (b : UInt8) (hl : l.length < 4294967281) : strings_Cut.f (bs l) (⟨#[b]⟩ : ByteArray) = some (bs (Lib.cut l [b]).1, bs (Lib.cut l [b]).2.1, (Lib.cut l [b]).2.2) := by
  unfold strings_Cut.f
  rw [if_pos (by rw [bs_size]; exact hl)]
  rfl

theorem Verify_is {l : Bs} (hl : l.length ≤ 1000000000) : ∃ b : Bool, Ter (fun k => impl_VerifyChecksum.f k (bs l)) (bs (verB l), b) := by
  have h1 := cut_len l 35
  unfold impl_VerifyChecksum.f
  simp only [Cut_is l 35 (by omega), Option.bind_some]
  by_cases h : (sealB (Lib.cut l [35]).1).length ≤ 4000
  · by_cases h2 : sealB (Lib.cut l [35]).1 = l
    · refine ⟨true, (AppendChecksum_is (by omega) (cut_no l 35)).bind ?_⟩
      rw [if_pos h]
      refine Ter.ifp rfl (Ter.ifp (by rw [bs_toList, bs_toList]; exact h2) ((Ter.ret _).eq ?_))
      unfold verB
      rw [if_pos ⟨h2, by rw [h2] at h; exact h⟩]
    · refine ⟨false, (AppendChecksum_is (by omega) (cut_no l 35)).bind ?_⟩
      rw [if_pos h]
      refine Ter.ifp rfl (Ter.ifn (by rw [bs_toList, bs_toList]; exact h2) ((Ter.ret _).eq ?_))
      unfold verB
      rw [if_neg (fun e => h2 e.1)]
      rfl
  · refine ⟨false, (AppendChecksum_is (by omega) (cut_no l 35)).bind ?_⟩
    rw [if_neg h]
    refine Ter.ifn (by decide) ((Ter.ret _).eq ?_)
    unfold verB
    rw [if_neg (fun e => h (by rw [e.1]; exact e.2))]
    rfl

/-- What both encoders tell. -/
def encB (k : Int) (c r : Bs) : ByteArray × Bool := if (0 ≤ k ∧ k ≤ 59) ∧ okRec c r = true then (bs (lineB k c r), true) else (bs [], false)

theorem specEncode_is {c r : Bs} (k : Int) (hc : c.length ≤ 100000000) (hr : r.length ≤ 100000000) : Ter (fun n => spec_EncodeRecord.f n k (bs c) (bs r)) (encB k c r) := by
  unfold spec_EncodeRecord.f encB
  rw [lIn_is]
  simp only [Option.bind_some]
  by_cases h : 0 ≤ k ∧ k ≤ 59
  · refine Ter.ifp (by simp; omega) ((l12Record_is (by omega) (by omega)).bind ?_)
    by_cases h2 : okRec c r = true
    · obtain ⟨n, rfl⟩ : ∃ n : Nat, k = (n : Int) := ⟨k.toNat, by omega⟩
      rw [if_pos ⟨h, h2⟩]
      exact Ter.ifp h2 ((l12Line_is n (by omega) hc hr).bind (Ter.ret _))
    · rw [if_neg (fun e => h2 e.2)]
      exact Ter.ifn h2 (Ter.ret _)
  · rw [if_neg (fun e => h e.1)]
    exact Ter.ifn (by simp; omega) (Ter.ret _)

theorem implEncode_is {c r : Bs} (k : Int) (hc : c.length ≤ 100000000) (hr : r.length ≤ 100000000) : Ter (fun n => impl_EncodeRecord.f n k (bs c) (bs r)) (encB k c r) := by
  have hj : Ter (fun n => impl_EncodeRecord.j0 n k true (bs c) (bs r)) (bs [], false) := Ter.succ (by simp only [impl_EncodeRecord.j0]; exact Ter.ifp trivial (Ter.ret _))
  unfold impl_EncodeRecord.f encB
  rw [lWithin_is]
  simp only [Option.bind_some]
  by_cases h : 0 ≤ k ∧ k ≤ 59
  · refine Ter.ifp (by simp; omega) ((IsValidRecord_is (by omega) (by omega)).bind ?_)
    by_cases h2 : okRec c r = true
    · rw [if_pos ⟨h, h2⟩, h2]
      refine Ter.succ ?_
      simp only [impl_EncodeRecord.j0]
      rw [Itoa_is k (by omega) (by omega)]
      simp only [Option.bind_some, lit1, bs_app, bs_size, List.length_append, List.length_cons, List.length_nil]
      have h3 := itoa_len h.1 1 (by omega)
      have ho := okRec_ok h2
      have h4 := body_len h.1 (by omega) ho
      have h5 := seal_len (bodyB k c r)
      refine Ter.ifn (by decide) (Ter.ifp (by omega) (Ter.ifp (by omega) (Ter.ifp (by omega) (Ter.ifp (by omega) ?_))))
      rw [line_app]
      have hA := AppendChecksum_is (l := bodyB k c r) (by omega) (body_hash h.1 ho)
      rw [if_pos (show (sealB (bodyB k c r)).length ≤ 4000 by omega)] at hA
      refine hA.bind ?_
      exact Ter.ifp (by rw [bs_size]; omega) ((Ter.ret _).eq (by rw [bs_app]; rfl))
    · rw [if_neg (fun e => h2 e.2)]
      simp only [Bool.not_eq_true] at h2
      rw [h2]
      exact hj
  · rw [if_neg (fun e => h e.1)]
    exact Ter.ifn (by simp; omega) hj
end Go.Proofs.YtoghambpbpgodaaDoor.P
namespace Go.Proofs.YtoghambpbpgodaaDoor.P
open Go.RowKit Go.Proofs.YtoghambpbpgodaaDoorW.PrintWords Go.Proofs.YtoghambpbpgodaaDoorW.PrintLast Go.Proofs.YtoghambpbpgodaaDoorW.PrintMore
set_option linter.unusedVariables false
set_option linter.unusedSimpArgs false

theorem take_drop_app {l : Bs} {i j : Nat} (h : i ≤ j) : l.drop i = (l.take j).drop i ++ l.drop j := by
  by_cases hj : j ≤ l.length
  · have e : l = l.take j ++ l.drop j := (List.take_append_drop j l).symm
    have : (l.take j ++ l.drop j).drop i = (l.take j).drop i ++ l.drop j := List.drop_append_of_le_length (by rw [List.length_take]; omega)
    rw [← e] at this
    exact this
  · rw [show l.drop j = [] from List.drop_eq_nil_of_le (by omega), List.append_nil, List.take_of_length_le (by omega)]

theorem l1Split_is {l : Bs} (b : UInt8) (hl : l.length ≤ 1000000000) : ∃ (p : List ByteArray) (q : ByteArray × List ByteArray), Ter (fun k => spec_l1Split.f k (bs l) (b.toNat : Int)) (bs (ahead b l) :: p) ∧ (b ∉ l → p = []) ∧ (b ∈ l → p = q.1 :: q.2) := by
  have key := down_ (Q := fun i => ∀ (out : List ByteArray) (a : Nat), a ≤ i → out.length ≤ i → b ∉ (l.take i).drop a → ∃ (p : List ByteArray) (q : ByteArray × List ByteArray), Ter (fun k => spec_l1Split.l0 k (bs l) (b.toNat : Int) out (a : Int) (i : Int)) (out ++ bs (ahead b (l.drop a)) :: p) ∧ (b ∉ l.drop i → p = []) ∧ (b ∈ l.drop i → p = q.1 :: q.2)) l.length
    (fun out a ha ho hb => ⟨[], (ByteArray.empty, []), Ter.succ (by
      simp only [spec_l1Split.l0]
      refine Ter.ifn (by rw [bs_size]; omega) (Ter.ifp (by omega) (Ter.ifp (by rw [bs_size]; omega) (Ter.ifp (by omega) ((Ter.ret _).eq ?_))))
      rw [bs_size, Int.toNat_natCast, bs_from]
      rw [List.take_length] at hb
      rw [ahead_none hb]), fun _ => rfl, fun h => by rw [List.drop_length] at h; cases h⟩)
    (fun i hi ih out a ha ho hb => by
      have hbt : bt (bs l) (i : Int) = (l[i].toNat : Int) := bs_bt hi
      by_cases h2 : l[i] = b
      · obtain ⟨p, q, h3, _, _⟩ := ih (out ++ [bs (ahead b (l.drop a))]) (i + 1) (Nat.le_refl _) (by simp; omega) (by rw [List.drop_eq_nil_of_le (by rw [List.length_take]; omega)]; simp)
        refine ⟨bs (ahead b (l.drop (i + 1))) :: p, (bs (ahead b (l.drop (i + 1))), p), Ter.succ ?_, fun h => absurd (by rw [drop_at hi, h2]; simp) h, fun _ => rfl⟩
        simp only [spec_l1Split.l0]
        refine Ter.ifp (by rw [bs_size]; omega) (Ter.ifp (by omega) (Ter.ifp (by rw [hbt, h2]) (Ter.ifp (by omega) (Ter.ifp (by omega) (Ter.ifp (by rw [bs_size]; omega) (Ter.ifp (by omega) ?_))))))
        rw [w64s hi (by omega), Int.toNat_natCast, Int.toNat_natCast, bs_cut]
        have e1 : ahead b (l.drop a) = (l.take i).drop a := by
          rw [take_drop_app ha, drop_at hi, h2]
          exact ahead_app _ hb
        rw [e1] at h3
        refine h3.eq ?_
        rw [e1]
        simp
      · obtain ⟨p, q, h3, h4, h5⟩ := ih out a (by omega) (by omega) (by
          have e : (l.take (i + 1)).drop a = (l.take i).drop a ++ [l[i]] := by
            rw [← take_one hi, List.drop_append_of_le_length (by rw [List.length_take]; omega)]
          rw [e, List.mem_append, List.mem_singleton]
          rintro (h | h)
          · exact hb h
          · exact h2 h.symm)
        refine ⟨p, q, Ter.succ ?_, fun h => h4 (fun h6 => h (by rw [drop_at hi]; exact List.mem_cons_of_mem _ h6)), fun h => h5 (by
          rw [drop_at hi] at h
          rcases List.mem_cons.1 h with h | h
          · exact absurd h.symm h2
          · exact h)⟩
        simp only [spec_l1Split.l0]
        refine Ter.ifp (by rw [bs_size]; omega) (Ter.ifp (by omega) (Ter.ifn (fun e => h2 (byte_eq (hbt.symm.trans e))) ?_))
        rw [w64s hi (by omega)]
        exact h3) 0 (by omega)
  obtain ⟨p, q, h1, h2, h3⟩ := key [] 0 (Nat.le_refl _) (Nat.le_refl _) (by simp)
  exact ⟨p, q, h1, h2, h3⟩

theorem rd_head (x : ByteArray) (p : List ByteArray) : rdOf ByteArray.empty (x :: p) 0 = x := rfl

theorem ahead_len (b : UInt8) (l : Bs) : (ahead b l).length ≤ l.length := (List.takeWhile_sublist _).length_le

theorem dec_is {l : Bs} (k : Nat) (hk : k ≤ 100) (hl : l.length ≤ 1000000) : ∃ x y : Bs, ∃ ok : Bool, Ter (fun n => spec_l12Decode.f n (bs l) (k : Int)) (bs x, bs y, ok) ∧ dec l (k : Int) = if ok = true then some (x, y) else none := by
  have hn := itoa_len (n := (k : Int)) (by omega) 2 (by omega)
  obtain ⟨p, q, hs, _, _⟩ := l1Split_is (l := l) 35 (by omega)
  have ht := ahead_len 35 l
  have hF0 : ∀ {r : ByteArray × ByteArray × Bool}, Ter (fun n => if ((ahead 35 l).length : Int) < ((Lib.itoa (k : Int) ++ [32]).length : Int) then spec_l12Decode.j0 n (bs l) (k : Int) (bs (Lib.itoa (k : Int) ++ [32])) (bs (ahead 35 l)) true else spec_l12Decode.j0 n (bs l) (k : Int) (bs (Lib.itoa (k : Int) ++ [32])) (bs (ahead 35 l)) ((ahead 35 l).take (Lib.itoa (k : Int) ++ [32]).length != Lib.itoa (k : Int) ++ [32])) r → Ter (fun n => spec_l12Decode.f n (bs l) (k : Int)) r := by
    intro r h
    unfold spec_l12Decode.f
    refine (l1Num_is k (by omega)).bind ?_
    simp only [lit1, bs_app, bs_size]
    refine Ter.ifp (by omega) (hs.bind ?_)
    refine Ter.ifp (by simp only [List.length_cons]; omega) ?_
    rw [rd_head, bs_size]
    by_cases hc : ((ahead 35 l).length : Int) < ((Lib.itoa (k : Int) ++ [32]).length : Int)
    · simp only [if_pos hc] at h ⊢
      exact h
    · simp only [if_neg hc] at h ⊢
      refine Ter.ifp (by omega) (Ter.ifp (by omega) ?_)
      rw [Int.toNat_natCast, bs_upto, bs_toList, bs_toList]
      exact h
  generalize hd_ : Lib.itoa (k : Int) ++ [32] = hd at hF0
  generalize ht_ : ahead 35 l = text at hF0 ht
  have hT : Ter (fun n => spec_l12Decode.j0 n (bs l) (k : Int) (bs hd) (bs text) true) (bs [], bs [], false) := Ter.succ (by simp only [spec_l12Decode.j0]; exact Ter.ifp trivial (Ter.ret _))
  unfold dec
  simp only [hd_, ht_]
  by_cases c1 : text.length < hd.length
  · simp only [if_pos (Int.ofNat_lt.2 c1)] at hF0
    exact ⟨[], [], false, hF0 hT, by rw [if_pos (.inl c1)]; rfl⟩
  · simp only [if_neg (fun e => c1 (Int.ofNat_lt.1 e))] at hF0
    have hF := @hF0
    clear hF0
    by_cases c2 : text.take hd.length = hd
    · have e2 : (text.take hd.length != hd) = false := by simpa using c2
      rw [e2] at hF
      rw [if_neg (by rintro (h | h); exact c1 h; exact h c2)]
      obtain ⟨p2, q2, hs2, _, _⟩ := l1Split_is (l := text.drop hd.length) 64 (by simp; omega)
      have ht2 := ahead_len 64 (text.drop hd.length)
      have h7 : (ahead 64 (text.drop hd.length)).length ≤ 1000000 := by
        rw [List.length_drop] at ht2
        omega
      have hJ : ∀ {r : ByteArray × ByteArray × Bool}, Ter (fun n => if (((ahead 64 (text.drop hd.length)).length : Nat) : Int) = ((text.drop hd.length).length : Int) then some (bs [], bs [], false) else ((spec_l12Record.f n (bs (ahead 64 (text.drop hd.length))) (bs ((text.drop hd.length).drop ((ahead 64 (text.drop hd.length)).length + 1)))).bind fun t188 => (if t188 = true then ((spec_l12Line.f n (k : Int) (bs (ahead 64 (text.drop hd.length))) (bs ((text.drop hd.length).drop ((ahead 64 (text.drop hd.length)).length + 1)))).bind fun t189 => some (bs (ahead 64 (text.drop hd.length)), bs ((text.drop hd.length).drop ((ahead 64 (text.drop hd.length)).length + 1)), t189.toList == l ++ [10])) else some (bs (ahead 64 (text.drop hd.length)), bs ((text.drop hd.length).drop ((ahead 64 (text.drop hd.length)).length + 1)), false)))) r → Ter (fun n => spec_l12Decode.j0 n (bs l) (k : Int) (bs hd) (bs text) false) r := by
        intro r h
        refine Ter.succ ?_
        simp only [spec_l12Decode.j0, bs_size, Int.toNat_natCast, bs_from]
        refine Ter.ifn (by decide) (Ter.ifp (by omega) (Ter.ifp (by omega) (hs2.bind ?_)))
        refine Ter.ifp (by simp only [List.length_cons]; omega) ?_
        rw [rd_head]
        simp only [bs_size]
        by_cases c3 : (((ahead 64 (text.drop hd.length)).length : Nat) : Int) = ((text.drop hd.length).length : Int)
        · simp only [if_pos c3] at h
          exact Ter.ifp c3 h
        · simp only [if_neg c3] at h
          refine Ter.ifn c3 ?_
          have e3 : wrap64 ((((ahead 64 (text.drop hd.length)).length : Nat) : Int) + 1) = (((ahead 64 (text.drop hd.length)).length + 1 : Nat) : Int) := by
            generalize (ahead 64 (text.drop hd.length)).length = m at h7
            rw [w64 (by omega) (by omega)]
            omega
          simp only [e3]
          refine Ter.ifp (by omega) (Ter.ifp (by omega) ?_)
          have e9 : l.length + 1 ≤ 9223372036854775807 := by omega
          simp only [Int.toNat_natCast, bs_from, lit1, bs_app, bs_toList, if_pos e9]
          exact h
      by_cases c3 : (ahead 64 (text.drop hd.length)).length = (text.drop hd.length).length
      · refine ⟨[], [], false, hF (hJ (Ter.ifp (by rw [c3]) (Ter.ret _))), ?_⟩
        rw [if_pos c3]
        rfl
      · rw [if_neg c3]
        generalize ha_ : ahead 64 (text.drop hd.length) = ask at hJ ht2 c3
        generalize hr_ : (text.drop hd.length).drop (ask.length + 1) = rep at hJ
        have h5 : ask.length ≤ 1000000 := by simp at ht2; omega
        have h6 : rep.length ≤ 1000000 := by rw [← hr_]; simp; omega
        by_cases c4 : okRec ask rep = true
        · refine ⟨ask, rep, lineB (k : Int) ask rep == l ++ [10], hF (hJ (Ter.ifn (by omega) ((l12Record_is (by omega) (by omega)).bind ?_))), ?_⟩
          · refine Ter.ifp c4 ((l12Line_is k (by omega) (by omega) (by omega)).bind ((Ter.ret _).eq ?_))
            rw [bs_toList]
          · by_cases c5 : lineB (k : Int) ask rep = l ++ [10]
            · rw [if_pos ⟨c4, c5⟩, if_pos (by simpa using c5)]
            · rw [if_neg (fun e => c5 e.2), if_neg (by simpa using c5)]
        · refine ⟨ask, rep, false, hF (hJ (Ter.ifn (by omega) ((l12Record_is (by omega) (by omega)).bind (Ter.ifn c4 (Ter.ret _))))), ?_⟩
          rw [if_neg (fun e => c4 e.1)]
          rfl
    · have e2 : (text.take hd.length != hd) = true := by simpa using c2
      rw [e2] at hF
      exact ⟨[], [], false, hF hT, by rw [if_pos (.inr c2)]; rfl⟩

def toRec (p : Bs × Bs) : S25 := ⟨bs p.1, bs p.2⟩

theorem one_len {k : Int} (hk : 0 ≤ k) {t : Bs} {c r : Bs} (h : one k t = some (c, r)) : t.length ≥ (lineB k c r).length := (one_starts h).2.length_le

theorem line_ahead {k : Int} (hk : 0 ≤ k) {t c r : Bs} (h : one k t = some (c, r)) : (10 : UInt8) ∈ t ∧ (ahead 10 t).length + 1 = (lineB k c r).length := by
  obtain ⟨ho, q, rfl⟩ := one_starts h
  have hr := okRec_ok ho
  unfold lineB
  refine ⟨by simp, ?_⟩
  rw [List.append_assoc, show [10] ++ q = 10 :: q from rfl, ahead_app q (seal_nl (body_nl hk hr))]
  simp

theorem l12Open_is {l : Bs} (hl : l.length ≤ 1000000) : Ter (fun n => spec_l12Open.f n (bs l)) ((recs 60 0 l).map toRec, (lenR 0 (recs 60 0 l) : Int)) := by
  have key : ∀ (n : Nat) (out : List S25) (a : Nat), out.length + n = 60 → a ≤ l.length → Ter (fun k => spec_l12Open.l0 k (bs l) out (a : Int)) (out ++ (recs n (out.length : Int) (l.drop a)).map toRec, ((a + lenR (out.length : Int) (recs n (out.length : Int) (l.drop a)) : Nat) : Int)) := by
    have hj : ∀ (out : List S25) (a : Nat), Ter (fun k => spec_l12Open.j1 k (bs l) out (a : Int) false) (out, (a : Int)) := fun out a => Ter.succ (by simp only [spec_l12Open.j1]; exact Ter.ifn (by decide) (Ter.ret _))
    intro n
    induction n with
    | zero =>
      intro out a h1 h2
      refine Ter.succ ?_
      simp only [spec_l12Open.l0, recs, List.map_nil, List.append_nil, lenR, Nat.add_zero]
      rw [show decide ((out.length : Int) < 60) = false by simp; omega]
      exact Ter.if_eq (fun _ => hj out a) (fun _ => hj out a)
    | succ n ih =>
      intro out a h1 h2
      refine Ter.succ ?_
      simp only [spec_l12Open.l0, bs_size]
      by_cases h3 : a < l.length
      · refine Ter.ifp (by omega) ?_
        rw [show decide ((out.length : Int) < 60) = true by simp; omega]
        refine Ter.succ ?_
        simp only [spec_l12Open.j1, bs_size, Int.toNat_natCast, bs_from]
        refine Ter.ifp trivial (Ter.ifp (by omega) (Ter.ifp (by omega) ?_))
        obtain ⟨p, q, hs, hp1, hp2⟩ := l1Split_is (l := l.drop a) 10 (by simp; omega)
        refine hs.bind (Ter.ifp (by simp only [List.length_cons]; omega) ?_)
        rw [rd_head]
        have hal := ahead_len 10 (l.drop a)
        obtain ⟨x, y, ok, hd, hd2⟩ := dec_is (l := ahead 10 (l.drop a)) out.length (by omega) (by simp at hal; omega)
        refine hd.bind ?_
        have e1 := one'_eq (k := (out.length : Int)) (by omega) (by omega) (l.drop a)
        unfold one' at e1
        by_cases h4 : (10 : UInt8) ∈ l.drop a
        · rw [if_pos h4, hd2] at e1
          rw [hp2 h4]
          refine Ter.ifn (by simp only [List.length_cons]; omega) ?_
          cases ok with
          | false =>
            rw [if_neg (by decide)] at e1
            refine Ter.ifn (by simp) ((Ter.ret _).eq ?_)
            simp only [recs, ← e1, List.map_nil, List.append_nil, lenR, Nat.add_zero]
          | true =>
            rw [if_pos rfl] at e1
            refine Ter.ifp rfl (Ter.ifp (by omega) ?_)
            have e2 := (line_ahead (k := (out.length : Int)) (by omega) e1.symm).2
            have e3 := one_len (k := (out.length : Int)) (by omega) e1.symm
            simp only [List.length_drop] at e3
            have e4 : wrap64 (wrap64 ((a : Int) + ((bs (ahead 10 (l.drop a))).size : Int)) + 1) = ((a + (lineB (out.length : Int) x y).length : Nat) : Int) := by
              rw [bs_size, w64 (n := (a : Int) + _) (by omega) (by omega), w64 (by omega) (by omega)]
              omega
            rw [e4]
            refine (ih (out ++ [(⟨bs x, bs y⟩ : S25)]) (a + (lineB (out.length : Int) x y).length) (by simp; omega) (by omega)).eq ?_
            have e5 : ((out ++ [(⟨bs x, bs y⟩ : S25)]).length : Int) = (out.length : Int) + 1 := by simp
            rw [e5]
            simp only [recs, ← e1, List.map_cons, lenR, List.drop_drop]
            rw [List.append_assoc, Nat.add_assoc]
            rfl
        · rw [if_neg h4] at e1
          rw [hp1 h4]
          refine Ter.ifp (by simp) ((Ter.ret _).eq ?_)
          simp only [recs, ← e1, List.map_nil, List.append_nil, lenR, Nat.add_zero]
      · refine Ter.ifn (by omega) ((hj out a).eq ?_)
        have e0 : l.drop a = [] := List.drop_eq_nil_of_le (by omega)
        simp only [recs, e0, one_nil (k := (out.length : Int)) (by omega), List.map_nil, List.append_nil, lenR, Nat.add_zero]
  unfold spec_l12Open.f
  have := key 60 [] 0 rfl (by omega)
  simpa using this

/-- The program's ends, as the printed function keeps them: behind the first one. -/
def endsI (a : Nat) (k : Int) (l : List (Bs × Bs)) : List Int := (endsR a k l).map fun (n : Nat) => (n : Int)

theorem endsI_cons (a : Nat) (k : Int) (e : Bs × Bs) (l : List (Bs × Bs)) : endsI a k (e :: l) = (a : Int) :: endsI (a + (lineB k e.1 e.2).length) (k + 1) l := rfl

theorem encB_eq {k : Int} (h0 : 0 ≤ k) (h1 : k ≤ 59) {c r : Bs} : encB k c r = if okRec c r = true then (bs (lineB k c r), true) else (bs [], false) := by
  unfold encB
  by_cases h : okRec c r = true
  · rw [if_pos ⟨⟨h0, h1⟩, h⟩, if_pos h]
  · rw [if_neg (fun e => h e.2), if_neg h]

theorem verB_len (l : Bs) : (verB l).length ≤ l.length := by
  have := (cut_len l 35).1
  unfold verB
  split
  · exact this
  · simp

set_option maxHeartbeats 1000000 in
theorem readRecords_is {l : Bs} (hl : l.length ≤ 1000000) : Ter (fun n => impl_readRecords.f n (bs l)) ((recs 60 0 l).map toRec, endsI 0 0 (recs 60 0 l)) := by
  have key : ∀ (n : Nat) (out : List S25) (en : List Int) (a : Nat), out.length + n = 60 → en.length + n ≤ 61 → a ≤ l.length → Ter (fun k => impl_readRecords.l0 k (bs l) out (en ++ [(a : Int)]) (a : Int)) (out ++ (recs n (out.length : Int) (l.drop a)).map toRec, en ++ endsI a (out.length : Int) (recs n (out.length : Int) (l.drop a))) := by
    intro n
    induction n with
    | zero =>
      intro out en a h1 h3 h4
      refine Ter.succ ?_
      simp only [impl_readRecords.l0, recs, List.map_nil, List.append_nil]
      exact Ter.ifn (by omega) (Ter.ret _)
    | succ n ih =>
      intro out en a h1 h3 h4
      refine Ter.succ ?_
      simp only [impl_readRecords.l0, bs_size, Int.toNat_natCast, bs_from]
      refine Ter.ifp (by omega) (Ter.ifp (by omega) (Ter.ifp (by omega) ?_))
      have hstop : one (out.length : Int) (l.drop a) = none → Ter (fun _ : Nat => some (out, en ++ [(a : Int)])) (out ++ (recs (n + 1) (out.length : Int) (l.drop a)).map toRec, en ++ endsI a (out.length : Int) (recs (n + 1) (out.length : Int) (l.drop a))) := by
        intro h
        refine (Ter.ret _).eq ?_
        simp only [recs, h, List.map_nil, List.append_nil]
        rfl
      have hd1 : (l.drop a).length ≤ 1000000 := by simp; omega
      generalize ht_ : l.drop a = t at hstop hd1 ⊢
      have hc1 := cut_len t 10
      rw [Cut_is t 10 (by omega)]
      simp only [Option.bind_some]
      by_cases hw : (Lib.cut t [10]).2.2 = true
      · refine Ter.ifp hw ?_
        obtain ⟨vb, hv⟩ := Verify_is (l := (Lib.cut t [10]).1) (by omega)
        refine hv.bind ?_
        have hvl := verB_len (Lib.cut t [10]).1
        have hc2 := cut_len (verB (Lib.cut t [10]).1) 32
        have hc3 := cut_len (Lib.cut (verB (Lib.cut t [10]).1) [32]).2.1 64
        simp only [Cut_is (verB (Lib.cut t [10]).1) 32 (by omega), Option.bind_some, Cut_is (Lib.cut (verB (Lib.cut t [10]).1) [32]).2.1 64 (by omega)]
        have hone : one (out.length : Int) t = if okRec (Lib.cut (Lib.cut (verB (Lib.cut t [10]).1) [32]).2.1 [64]).1 (Lib.cut (Lib.cut (verB (Lib.cut t [10]).1) [32]).2.1 [64]).2.1 = true ∧ lineB (out.length : Int) (Lib.cut (Lib.cut (verB (Lib.cut t [10]).1) [32]).2.1 [64]).1 (Lib.cut (Lib.cut (verB (Lib.cut t [10]).1) [32]).2.1 [64]).2.1 = (Lib.cut t [10]).1 ++ [10] then some ((Lib.cut (Lib.cut (verB (Lib.cut t [10]).1) [32]).2.1 [64]).1, (Lib.cut (Lib.cut (verB (Lib.cut t [10]).1) [32]).2.1 [64]).2.1) else none := by
          unfold one
          simp only [hw, if_true]
        have hcl : (Lib.cut (Lib.cut (verB (Lib.cut t [10]).1) [32]).2.1 [64]).1.length ≤ 1000000 := by omega
        have hrl : (Lib.cut (Lib.cut (verB (Lib.cut t [10]).1) [32]).2.1 [64]).2.1.length ≤ 1000000 := by omega
        clear hc3
        generalize (Lib.cut (Lib.cut (verB (Lib.cut t [10]).1) [32]).2.1 [64]).1 = c at hone hcl ⊢
        generalize (Lib.cut (Lib.cut (verB (Lib.cut t [10]).1) [32]).2.1 [64]).2.1 = r at hone hrl ⊢
        have hll : (Lib.cut t [10]).1.length ≤ 1000000 := by omega
        clear hc1 hc2 hvl hv
        generalize (Lib.cut t [10]).1 = line at hone hll ⊢
        refine (implEncode_is (out.length : Int) (by omega) (by omega)).bind ?_
        rw [encB_eq (by omega) (by omega)]
        by_cases h5 : okRec c r = true
        · rw [if_pos h5]
          simp only [lit1, bs_app, bs_size, bs_toList]
          refine Ter.ifp trivial (Ter.ifp (by omega) ?_)
          by_cases h6 : lineB (out.length : Int) c r = line ++ [10]
          · rw [if_pos ⟨h5, h6⟩] at hone
            refine Ter.ifp h6 (Ter.ifp (by omega) (Ter.ifp (by rw [List.length_append, List.length_singleton]; omega) ?_))
            have e2 := congrArg List.length h6
            simp only [List.length_append, List.length_cons, List.length_nil] at e2
            have e3 := one_len (k := (out.length : Int)) (by omega) hone
            have e3' : t.length = l.length - a := by rw [← ht_]; simp
            have e4 : wrap64 ((a : Int) + wrap64 ((line.length : Int) + 1)) = ((a + (lineB (out.length : Int) c r).length : Nat) : Int) := by
              generalize (lineB (out.length : Int) c r).length = q at e2 e3
              rw [w64 (n := (line.length : Int) + 1) (by omega) (by omega), w64 (by omega) (by omega)]
              omega
            have e6 : a + (lineB (out.length : Int) c r).length ≤ l.length := by
              generalize (lineB (out.length : Int) c r).length = q at e2 e3 ⊢
              clear e4
              omega
            rw [e4]
            refine (ih (out ++ [(⟨bs c, bs r⟩ : S25)]) (en ++ [(a : Int)]) (a + (lineB (out.length : Int) c r).length) (by rw [List.length_append, List.length_singleton]; omega) (by rw [List.length_append, List.length_singleton]; omega) e6).eq ?_
            have e5 : ((out ++ [(⟨bs c, bs r⟩ : S25)]).length : Int) = (out.length : Int) + 1 := by simp
            rw [e5]
            simp only [recs, hone, List.map_cons, endsI_cons]
            rw [← List.drop_drop, ht_, List.append_assoc, List.append_assoc]
            rfl
          · rw [if_neg (fun e => h6 e.2)] at hone
            exact Ter.ifn h6 (hstop hone)
        · rw [if_neg (fun e => h5 e.1)] at hone
          rw [if_neg h5]
          exact Ter.ifn (by decide) (hstop hone)
      · have hone : one (out.length : Int) t = none := by unfold one; rw [if_neg hw]
        exact Ter.ifn hw (hstop hone)
  unfold impl_readRecords.f
  have := key 60 [] [] 0 rfl (by simp) (by omega)
  simpa using this
end Go.Proofs.YtoghambpbpgodaaDoor.P
namespace Go.Proofs.YtoghambpbpgodaaDoor.P
open Go.RowKit Go.Proofs.YtoghambpbpgodaaDoorW.PrintWords Go.Proofs.YtoghambpbpgodaaDoorW.PrintLast Go.Proofs.YtoghambpbpgodaaDoorW.PrintMore
set_option linter.unusedVariables false
set_option linter.unusedSimpArgs false

theorem index_is (x : Int) (l : List Int) (hl : l.length ≤ 1000) : ∃ r : Int, Ter (fun k => slices_Index_int_int.f k l x) r ∧ (0 ≤ r ↔ x ∈ l) := by
  have key := down_ (Q := fun i => ∃ r : Int, Ter (fun k => slices_Index_int_int.l0 k l x (l.length : Int) (i : Int)) r ∧ (0 ≤ r ↔ x ∈ l.drop i)) l.length
    ⟨-1, Ter.succ (by simp only [slices_Index_int_int.l0]; exact Ter.ifn (by omega) (Ter.ret _)), by rw [List.drop_length]; simp⟩
    (fun i hi ih => by
      have hd : l.drop i = l[i] :: l.drop (i + 1) := List.drop_eq_getElem_cons hi
      by_cases h : x = l[i]
      · refine ⟨(i : Int), Ter.succ ?_, ⟨fun _ => by rw [hd, ← h]; exact List.mem_cons_self .., fun _ => by omega⟩⟩
        simp only [slices_Index_int_int.l0]
        exact Ter.ifp (by omega) (Ter.ifp (by omega) (Ter.ifp (by omega) (Ter.ifp (by rw [rd_at hi]; exact h) (Ter.ret _))))
      · obtain ⟨r, h1, h2⟩ := ih
        refine ⟨r, Ter.succ ?_, by rw [hd, List.mem_cons]; constructor; (· intro e; exact .inr (h2.1 e)); (· rintro (e | e); exact absurd e h; exact h2.2 e)⟩
        simp only [slices_Index_int_int.l0]
        refine Ter.ifp (by omega) (Ter.ifp (by omega) (Ter.ifp (by omega) (Ter.ifn (by rw [rd_at hi]; exact h) ?_)))
        rw [w64s hi (by omega)]
        exact h1) 0 (by omega)
  obtain ⟨r, h1, h2⟩ := key
  exact ⟨r, h1, by simpa using h2⟩

theorem contains_is (x : Int) (l : List Int) (hl : l.length ≤ 1000) : Ter (fun k => slices_Contains_int_int.f k l x) (decide (x ∈ l)) := by
  obtain ⟨r, h1, h2⟩ := index_is x l hl
  unfold slices_Contains_int_int.f
  refine h1.bind ((Ter.ret _).eq ?_)
  rw [decide_eq_decide]
  exact h2

/-- A log is valid. -/
def validB (D P : Bs) (n : Int) : Bool := decide (D.length + P.length ≤ 30000) && (decide (lenR 0 (recs 60 0 (D ++ P)) = D.length + P.length) && (decide (lenR 0 (recs 60 0 D) = D.length) && decide (((recs 60 0 (D ++ P)).length : Int) = n)))

theorem Ter.some_ {α : Type} {a b : α} (h : a = b) : Ter (fun _ => some a) b := (Ter.ret _).eq h

theorem specValid_is {D P : Bs} (n : Int) (hD : D.length ≤ 1048576) (hP : P.length ≤ 1048576) : Ter (fun k => spec_l12Valid.f k (bs D) (bs P) n) (validB D P n) := by
  unfold spec_l12Valid.f validB
  simp only [bs_size, bs_app, w64 (n := (D.length : Int) + (P.length : Int)) (by omega) (by omega)]
  by_cases h1 : D.length + P.length ≤ 30000
  · refine Ter.ifn (by omega) (Ter.ifp (by omega) ?_)
    refine (l12Open_is (l := D ++ P) (by rw [List.length_append]; omega)).bind ((l12Open_is (l := D) (by omega)).bind ?_)
    simp only [h1, decide_true, Bool.true_and]
    by_cases h2 : lenR 0 (recs 60 0 (D ++ P)) = D.length + P.length
    · refine Ter.ifp (by rw [h2]; omega) ?_
      by_cases h3 : lenR 0 (recs 60 0 D) = D.length
      · refine Ter.ifp (by rw [h3]) (Ter.some_ ?_)
        simp only [h2, h3, decide_true, Bool.true_and, List.length_map]
        by_cases h4 : ((recs 60 0 (D ++ P)).length : Int) = n <;> simp [h4]
      · exact Ter.ifn (by omega) (Ter.some_ (by simp [h3]))
    · exact Ter.ifn (by omega) (Ter.some_ (by simp [h2]))
  · exact Ter.ifp (by omega) (Ter.some_ (by simp [h1]))

theorem endsI_len (l : List (Bs × Bs)) : (endsI 0 0 l).length = l.length + 1 := by unfold endsI; rw [List.length_map, endsR_len]

theorem endsI_last (l : List (Bs × Bs)) : rd (endsI 0 0 l) (l.length : Int) = (lenR 0 l : Int) := by
  unfold rd endsI
  rw [List.getD_eq_getElem?_getD, List.getElem?_map, Int.toNat_natCast, endsR_last]
  simp

theorem endsI_mem (l : List (Bs × Bs)) (n : Nat) : (n : Int) ∈ endsI 0 0 l ↔ n ∈ endsR 0 0 l := by
  unfold endsI
  rw [List.mem_map]
  constructor
  · rintro ⟨m, hm, e⟩
    obtain rfl : m = n := by omega
    exact hm
  · intro h
    exact ⟨n, h, rfl⟩

theorem implValid_is {D P : Bs} (n : Int) (hD : D.length ≤ 1048576) (hP : P.length ≤ 1048576) : Ter (fun k => impl_IsValidLog.f k (bs D) (bs P) n) (validB D P n) := by
  unfold impl_IsValidLog.f validB
  simp only [bs_size, bs_app, w64 (n := (D.length : Int) + (P.length : Int)) (by omega) (by omega)]
  by_cases h1 : D.length + P.length ≤ 30000
  · refine Ter.ifn (by omega) (Ter.ifp (by omega) ?_)
    refine (readRecords_is (l := D ++ P) (by rw [List.length_append]; omega)).bind ?_
    simp only [h1, decide_true, Bool.true_and, List.length_map, endsI_len, endsI_last]
    have hm := endsI_mem (recs 60 0 (D ++ P)) D.length
    have he := ends_iff 60 0 0 D P (by omega) (by omega)
    rw [Nat.zero_add] at he
    have hl := recs_len 60 0 (D ++ P)
    refine Ter.ifp (by omega) (Ter.ifp (by omega) ?_)
    by_cases h2 : lenR 0 (recs 60 0 (D ++ P)) = D.length + P.length
    · refine Ter.ifp (by rw [h2]; omega) ?_
      by_cases h4 : ((recs 60 0 (D ++ P)).length : Int) = n
      · refine Ter.ifp h4.symm ((contains_is _ _ (by rw [endsI_len]; omega)).bind (Ter.some_ ?_))
        simp only [h2, h4, decide_true, Bool.true_and, Bool.and_true, decide_eq_decide]
        exact hm.trans he
      · exact Ter.ifn (fun e => h4 e.symm) (Ter.some_ (by simp [h4]))
    · exact Ter.ifn (by omega) (Ter.some_ (by simp [h2]))
  · exact Ter.ifp (by omega) (Ter.some_ (by simp [h1]))

theorem valid_len {D P : Bs} {n : Int} (h : validB D P n = true) : 0 ≤ n ∧ n ≤ 60 ∧ D.length + P.length ≤ 30000 := by
  unfold validB at h
  simp only [Bool.and_eq_true, decide_eq_true_eq] at h
  have := recs_len 60 0 (D ++ P)
  omega
end Go.Proofs.YtoghambpbpgodaaDoor.P
namespace Go.Proofs.YtoghambpbpgodaaDoor.P
set_option linter.unusedVariables false
set_option linter.unusedSimpArgs false

theorem recs_none {n : Nat} {k : Int} {t : Bs} (h : one k t = none) : recs n k t = [] := by
  cases n with
  | zero => rfl
  | succ n => simp only [recs, h]

theorem recs_app : ∀ (m : Nat) (k : Int) (t c q : Bs), 0 ≤ k → k + m ≤ 60 → lenR k (recs m k t) = t.length → (recs m k t).length < m → okRec c q = true → recs m k (t ++ lineB (k + (recs m k t).length) c q) = recs m k t ++ [(c, q)]
  | 0, k, t, c, q, _, _, _, h, _ => absurd h (Nat.not_lt_zero _)
  | m + 1, k, t, c, q, hk, hk2, hl, hlt, ho => by
    have hk3 : k < 100 := by omega
    cases h1 : one k t with
    | none =>
      have e : recs (m + 1) k t = [] := recs_none h1
      rw [e] at hl ⊢
      have et : t = [] := List.eq_nil_of_length_eq_zero (by simpa [lenR] using hl.symm)
      subst et
      have h2 : one k ([] ++ lineB (k + (([] : List (Bs × Bs)).length : Int)) c q) = some (c, q) := by
        rw [show k + (([] : List (Bs × Bs)).length : Int) = k by simp]
        exact oneL_of hk hk3 ho (by simp)
      simp only [recs, h2]
      rw [show k + (([] : List (Bs × Bs)).length : Int) = k by simp, List.nil_append, List.drop_length, recs_none (one_nil (by omega))]
      rfl
    | some p =>
      obtain ⟨c', q'⟩ := p
      have hs := one_starts h1
      obtain ⟨t', rfl⟩ := hs.2
      have e : recs (m + 1) k (lineB k c' q' ++ t') = (c', q') :: recs m (k + 1) t' := by
        simp only [recs, h1]
        rw [List.drop_left]
      rw [e] at hl hlt ⊢
      simp only [lenR, List.length_cons, List.length_append] at hl hlt
      have ih := recs_app m (k + 1) t' c q (by omega) (by omega) (by omega) (by omega) ho
      have h2 : ∀ X : Bs, one k (lineB k c' q' ++ t' ++ X) = some (c', q') := fun X => oneL_of hk hk3 hs.1 ⟨t' ++ X, by rw [List.append_assoc]⟩
      have e2 : ∀ X : Bs, recs (m + 1) k (lineB k c' q' ++ t' ++ X) = (c', q') :: recs m (k + 1) (t' ++ X) := fun X => by
        simp only [recs, h2]
        rw [List.append_assoc, List.drop_left]
      rw [e2, show k + (((c', q') :: recs m (k + 1) t').length : Int) = k + 1 + ((recs m (k + 1) t').length : Int) by simp; omega, ih]
      rfl

theorem line_len {k : Int} (h0 : 0 ≤ k) (h1 : k < 100) {c q : Bs} (h : okRec c q = true) : (lineB k c q).length ≤ 432 := by
  have hb := body_len h0 h1 (okRec_ok h)
  have hs := seal_len (bodyB k c q)
  unfold lineB
  rw [List.length_append, List.length_singleton]
  omega

theorem lenR_bound : ∀ (n : Nat) (k : Int) (t : Bs), 0 ≤ k → k + n ≤ 60 → lenR k (recs n k t) ≤ 432 * (recs n k t).length
  | 0, _, _, _, _ => Nat.le_refl _
  | n + 1, k, t, hk, hk2 => by
    cases h1 : one k t with
    | none => rw [recs_none h1]; exact Nat.le_refl _
    | some p =>
      obtain ⟨c, q⟩ := p
      have hs := one_starts h1
      have ih := lenR_bound n (k + 1) (t.drop (lineB k c q).length) (by omega) (by omega)
      have hll := line_len hk (by omega) hs.1
      simp only [recs, h1, lenR, List.length_cons]
      omega

theorem valid_parts {D P : Bs} {n : Int} : validB D P n = true ↔ (D.length + P.length ≤ 30000 ∧ lenR 0 (recs 60 0 (D ++ P)) = D.length + P.length ∧ lenR 0 (recs 60 0 D) = D.length ∧ ((recs 60 0 (D ++ P)).length : Int) = n) := by
  unfold validB
  simp only [Bool.and_eq_true, decide_eq_true_eq]

/-- A valid log that is not full, with one more line: it is valid, and holds one record more. -/
theorem append_valid {D P c q : Bs} {n : Int} (hv : validB D P n = true) (hn : n ≠ 60) (ho : okRec c q = true) : validB D (P ++ lineB n c q) (n + 1) = true ∧ recs 60 0 (D ++ (P ++ lineB n c q)) = recs 60 0 (D ++ P) ++ [(c, q)] := by
  obtain ⟨h1, h2, h3, h4⟩ := valid_parts.1 hv
  have hlen := recs_len 60 0 (D ++ P)
  have hb := lenR_bound 60 0 (D ++ P) (by omega) (by omega)
  have e : recs 60 0 (D ++ (P ++ lineB n c q)) = recs 60 0 (D ++ P) ++ [(c, q)] := by
    have := recs_app 60 0 (D ++ P) c q (by omega) (by omega) (by rw [List.length_append]; exact h2) (by omega) ho
    rw [h4, Int.zero_add, List.append_assoc] at this
    exact this
  have hll := line_len (k := n) (by omega) (by omega) ho
  refine ⟨valid_parts.2 ⟨by rw [List.length_append]; omega, ?_, h3, by rw [e, List.length_append, List.length_singleton]; omega⟩, e⟩
  rw [e]
  have happ : ∀ (l : List (Bs × Bs)) (k : Int) (p : Bs × Bs), lenR k (l ++ [p]) = lenR k l + (lineB (k + l.length) p.1 p.2).length := by
    intro l
    induction l with
    | nil => intro k p; simp [lenR]
    | cons x l ih =>
      intro k p
      simp only [List.cons_append, lenR, ih, List.length_cons]
      rw [show k + ((l.length + 1 : Nat) : Int) = k + 1 + (l.length : Int) by omega, Nat.add_assoc]
  rw [happ, h2, List.length_append, h4, Int.zero_add]
  dsimp only
  omega
end Go.Proofs.YtoghambpbpgodaaDoor.P
namespace Go.Proofs.YtoghambpbpgodaaDoor.P
open Go.RowKit Go.Proofs.YtoghambpbpgodaaDoorW.PrintWords Go.Proofs.YtoghambpbpgodaaDoorW.PrintLast Go.Proofs.YtoghambpbpgodaaDoorW.PrintMore
set_option linter.unusedVariables false
set_option linter.unusedSimpArgs false

/-- What both tell. -/
def appR (D P c q : Bs) (n : Int) (b : Bool) : ByteArray × ByteArray × Int × Int := bif b && okRec c q then (if n = 60 then (bs D, bs P, n, 2) else (bs D, bs (P ++ lineB n c q), n + 1, 0)) else (bs D, bs P, n, 1)

theorem specAppend_is {D P c q : Bs} {n : Int} {b : Bool} (h : Ter (fun k => spec_l12Valid.f k (bs D) (bs P) n) b) (hv : b = true → 0 ≤ n ∧ n ≤ 60 ∧ D.length + P.length ≤ 30000) (hD : D.length ≤ 1048576) (hP : P.length ≤ 1048576) (hc : c.length ≤ 1048576) (hq : q.length ≤ 1048576) : Ter (fun k => spec_AppendRecord.f k (bs D) (bs P) n (bs c) (bs q)) (appR D P c q n b) := by
  unfold spec_AppendRecord.f appR
  refine h.bind ?_
  cases b with
  | false => exact Ter.ifn (by decide) (Ter.succ (by simp only [spec_AppendRecord.j0]; exact Ter.ifp trivial (Ter.ret _)))
  | true =>
    have hn := hv rfl
    have ho0 := l12Record_is (c := c) (r := q) (by omega) (by omega)
    have ho : okRec c q = true → Ok c q := okRec_ok
    generalize okRec c q = o at ho0 ho
    refine Ter.ifp rfl (ho0.bind ?_)
    cases o with
    | false => exact Ter.succ (by simp only [spec_AppendRecord.j0]; exact Ter.ifp rfl (Ter.ret _))
    | true =>
      refine Ter.succ ?_
      simp only [spec_AppendRecord.j0, Bool.and_self, cond_true]
      refine Ter.ifn (by decide) ?_
      by_cases h60 : n = 60
      · rw [if_pos h60]
        exact Ter.ifp h60 (Ter.ret _)
      · rw [if_neg h60]
        obtain ⟨m, rfl⟩ : ∃ m : Nat, n = (m : Int) := ⟨n.toNat, by omega⟩
        refine Ter.ifn h60 ((l12Line_is m (by omega) (by omega) (by omega)).bind ?_)
        have hb := body_len (k := (m : Int)) (by omega) (by omega) (ho rfl)
        have hl := seal_len (bodyB (m : Int) c q)
        have hll : (lineB (m : Int) c q).length = (sealB (bodyB (m : Int) c q)).length + 1 := by unfold lineB; simp
        simp only [bs_size, bs_app, w64 (n := (m : Int) + 1) (by omega) (by omega)]
        exact Ter.ifp (by omega) (Ter.ret _)

theorem implAppend_is {D P c q : Bs} {n : Int} {b : Bool} (h : Ter (fun k => impl_IsValidLog.f k (bs D) (bs P) n) b) (hv : b = true → 0 ≤ n ∧ n ≤ 60 ∧ D.length + P.length ≤ 30000) (hD : D.length ≤ 1048576) (hP : P.length ≤ 1048576) (hc : c.length ≤ 1048576) (hq : q.length ≤ 1048576) : Ter (fun k => impl_AppendRecord.f k (bs D) (bs P) n (bs c) (bs q)) (appR D P c q n b) := by
  unfold impl_AppendRecord.f appR
  refine h.bind ?_
  cases b with
  | false => exact Ter.ifn (by decide) (Ter.succ (by simp only [impl_AppendRecord.j0]; exact Ter.ifp trivial (Ter.ret _)))
  | true =>
    have hn := hv rfl
    have ho0 := IsValidRecord_is (c := c) (r := q) (by omega) (by omega)
    have ho : okRec c q = true → Ok c q := okRec_ok
    have he : encB n c q = if (0 ≤ n ∧ n ≤ 59) ∧ okRec c q = true then (bs (lineB n c q), true) else (bs [], false) := rfl
    have he0 := implEncode_is (c := c) (r := q) n (by omega) (by omega)
    generalize okRec c q = o at ho0 ho he
    refine Ter.ifp rfl (ho0.bind ?_)
    cases o with
    | false => exact Ter.succ (by simp only [impl_AppendRecord.j0]; exact Ter.ifp rfl (Ter.ret _))
    | true =>
      refine Ter.succ ?_
      simp only [impl_AppendRecord.j0, Bool.and_self, cond_true]
      refine Ter.ifn (by decide) (he0.bind ?_)
      by_cases h60 : n = 60
      · rw [if_pos h60]
        have he2 : encB n c q = (bs [], false) := by rw [he, if_neg (fun e => by have := e.1.2; omega)]
        rw [he2]
        exact Ter.ifn (by decide) (Ter.ret _)
      · rw [if_neg h60]
        have he2 : encB n c q = (bs (lineB n c q), true) := by rw [he, if_pos ⟨⟨by omega, by omega⟩, rfl⟩]
        rw [he2]
        have hb := body_len (k := n) (by omega) (by omega) (ho rfl)
        have hl := seal_len (bodyB n c q)
        have hll : (lineB n c q).length = (sealB (bodyB n c q)).length + 1 := by unfold lineB; simp
        simp only [bs_size, bs_app, w64 (n := n + 1) (by omega) (by omega)]
        exact Ter.ifp trivial (Ter.ifp (by omega) (Ter.ret _))

theorem specSync_is {D P : Bs} {n : Int} {b : Bool} (h : Ter (fun k => spec_l12Valid.f k (bs D) (bs P) n) b) (hD : D.length ≤ 1048576) (hP : P.length ≤ 1048576) : Ter (fun k => spec_SyncLog.f k (bs D) (bs P) n) (bif b then (bs (D ++ P), bs [], n, true) else (bs [], bs [], 0, false)) := by
  unfold spec_SyncLog.f
  refine h.bind ?_
  cases b with
  | true => exact Ter.ifp rfl (Ter.ifp (by rw [bs_size, bs_size]; omega) (Ter.some_ (by rw [bs_app]; rfl)))
  | false => exact Ter.ifn (by decide) (Ter.ret _)

theorem implSync_is {D P : Bs} {n : Int} {b : Bool} (h : Ter (fun k => impl_IsValidLog.f k (bs D) (bs P) n) b) (hD : D.length ≤ 1048576) (hP : P.length ≤ 1048576) : Ter (fun k => impl_SyncLog.f k (bs D) (bs P) n) (bif b then (bs (D ++ P), bs [], n, true) else (bs [], bs [], 0, false)) := by
  unfold impl_SyncLog.f
  refine h.bind ?_
  cases b with
  | true => exact Ter.ifp rfl (Ter.ifp (by rw [bs_size, bs_size]; omega) (Ter.some_ (by rw [bs_app]; rfl)))
  | false => exact Ter.ifn (by decide) (Ter.ret _)

theorem specRecords_is {D P : Bs} {n : Int} {b : Bool} (h : Ter (fun k => spec_l12Valid.f k (bs D) (bs P) n) b) (hv : b = true → D.length + P.length ≤ 30000) : Ter (fun k => spec_LogRecords.f k (bs D) (bs P) n) (bif b then (recs 60 0 (D ++ P)).map toRec else [], b) := by
  unfold spec_LogRecords.f
  refine h.bind ?_
  cases b with
  | true =>
    have hv := hv rfl
    refine Ter.ifp rfl (Ter.ifp (by rw [bs_size, bs_size]; omega) ?_)
    rw [bs_app]
    exact (l12Open_is (l := D ++ P) (by rw [List.length_append]; omega)).bind (Ter.some_ rfl) |> fun h => h
  | false => exact Ter.ifn (by decide) (Ter.ret _)

theorem implRecords_is {D P : Bs} {n : Int} {b : Bool} (h : Ter (fun k => impl_IsValidLog.f k (bs D) (bs P) n) b) (hv : b = true → D.length + P.length ≤ 30000) : Ter (fun k => impl_LogRecords.f k (bs D) (bs P) n) (bif b then (recs 60 0 (D ++ P)).map toRec else [], b) := by
  unfold impl_LogRecords.f
  refine h.bind ?_
  cases b with
  | true =>
    have hv := hv rfl
    refine Ter.ifp rfl (Ter.ifp (by rw [bs_size, bs_size]; omega) ?_)
    rw [bs_app]
    exact (readRecords_is (l := D ++ P) (by rw [List.length_append]; omega)).bind (Ter.some_ rfl)
  | false => exact Ter.ifn (by decide) (Ter.ret _)

theorem rdT_at {l : List S25} {i : Nat} (h : i < l.length) : rd_T25 l (i : Int) = l[i] := getD_at h
end Go.Proofs.YtoghambpbpgodaaDoor.P
namespace Go.Proofs.YtoghambpbpgodaaDoor.P
open Go.RowKit Go.Proofs.YtoghambpbpgodaaDoorW.PrintWords Go.Proofs.YtoghambpbpgodaaDoorW.PrintLast Go.Proofs.YtoghambpbpgodaaDoorW.PrintMore
set_option linter.unusedVariables false
set_option linter.unusedSimpArgs false

/-- A code: bytes, not too many. -/
structure Code (A : List Int) : Prop where
  byte : ∀ z ∈ A, 0 ≤ z ∧ z ≤ 255
  len : A.length ≤ 100000

theorem and255 {x : Int} (h0 : 0 ≤ x) (h1 : x < 18446744073709551616) : 0 ≤ bits .and .u64 x 255 ∧ bits .and .u64 x 255 ≤ 255 := by
  have h : bits .and .u64 x 255 = x % 256 := bits_mask .u64 64 (by decide) wraps_u64 8 (by decide) x h0 (by omega)
  rw [h]
  omega

theorem wrapU (x : Int) : 0 ≤ IntKind.u64.wrap x ∧ IntKind.u64.wrap x < 18446744073709551616 := by
  rw [IntKind.wrap_u64]
  omega

theorem high_byte (x : Int) : 0 ≤ wrap64 (bits .and .u64 (IntKind.u64.wrap x / 1099511627776) 255) ∧ wrap64 (bits .and .u64 (IntKind.u64.wrap x / 1099511627776) 255) ≤ 255 := by
  have h1 := wrapU x
  have h := and255 (x := IntKind.u64.wrap x / 1099511627776) (by omega) (by omega)
  rw [w64 (by omega) (by omega)]
  exact h

theorem next_is {A : List Int} (hA : Code A) {a : Int} (s : Int) (h0 : 0 ≤ a) (h1 : a ≤ 1000000) : ∃ b s', spec_l1Cur_next.f A a s = some (b, a + 1, s') ∧ 0 ≤ b ∧ b ≤ 255 := by
  have hl := hA.len
  obtain ⟨i, rfl⟩ : ∃ i : Nat, a = (i : Int) := ⟨a.toNat, by omega⟩
  unfold spec_l1Cur_next.f
  rw [w64 (n := (i : Int) + 1) (by omega) (by omega)]
  by_cases c1 : (i : Int) < (A.length : Int)
  · have hi : i < A.length := by omega
    have hb := hA.byte A[i] (List.getElem_mem hi)
    rw [if_pos c1, if_pos h0, if_pos (by omega), rd_at hi, w64 (n := A[i]) (by omega) (by omega)]
    exact ⟨_, _, rfl, hb⟩
  · rw [if_neg c1, if_neg (by omega)]
    exact ⟨_, _, rfl, high_byte _⟩

theorem pick_is {A : List Int} (hA : Code A) {a : Int} (s n : Int) (h0 : 0 ≤ a) (h1 : a ≤ 900000) : ∃ r a' s', spec_l1Cur_pick.f A a s n = some (r, a', s') ∧ 0 ≤ r ∧ (r = 0 ∨ r < n) ∧ 0 ≤ a' ∧ a' ≤ a + 2 := by
  unfold spec_l1Cur_pick.f
  by_cases c1 : n ≤ 1
  · rw [if_pos c1]
    exact ⟨_, _, _, rfl, by omega, .inl rfl, by omega, by omega⟩
  · rw [if_neg c1]
    obtain ⟨b, s1, e1, hb⟩ := next_is hA s h0 (by omega)
    simp only [e1, Option.bind_some]
    by_cases c2 : n > 200
    · obtain ⟨b2, s2, e2, hb2⟩ := next_is hA s1 (a := a + 1) (by omega) (by omega)
      simp only [if_pos c2, e2, Option.bind_some, if_neg (show ¬ n = 0 by omega)]
      rw [w64 (n := b * 256) (by omega) (by omega), w64 (n := b * 256 + b2) (by omega) (by omega), tmod_is (by omega)]
      exact ⟨_, _, _, rfl, Int.emod_nonneg _ (by omega), .inr (Int.emod_lt_of_pos _ (by omega)), by omega, by omega⟩
    · simp only [if_neg c2, if_neg (show ¬ n = 0 by omega)]
      rw [tmod_is (by omega)]
      exact ⟨_, _, _, rfl, Int.emod_nonneg _ (by omega), .inr (Int.emod_lt_of_pos _ (by omega)), by omega, by omega⟩

theorem one_is_ {A : List Int} (hA : Code A) {a : Int} (s n : Int) (h0 : 0 ≤ a) (h1 : a ≤ 900000) : ∃ r a' s', spec_l1Cur_one.f A a s n = some (r, a', s') ∧ 0 ≤ a' ∧ a' ≤ a + 2 := by
  obtain ⟨r, a', s', e, h⟩ := pick_is hA s n h0 h1
  unfold spec_l1Cur_one.f
  simp only [e, Option.bind_some]
  exact ⟨_, _, _, rfl, h.2.2⟩

theorem of_is_ {A : List Int} (hA : Code A) {a : Int} (s : Int) (l : List ByteArray) (hl : 0 < l.length) (h0 : 0 ≤ a) (h1 : a ≤ 900000) : ∃ x a' s', spec_l1Cur_of.f A a s l = some (x, a', s') ∧ x ∈ l ∧ 0 ≤ a' ∧ a' ≤ a + 2 := by
  obtain ⟨r, a', s', e, hr, hr2, h⟩ := pick_is hA s (l.length : Int) h0 h1
  unfold spec_l1Cur_of.f
  simp only [e, Option.bind_some]
  have hlt : r < (l.length : Int) := by omega
  rw [if_pos hr, if_pos hlt]
  refine ⟨_, _, _, rfl, ?_, h⟩
  obtain ⟨i, rfl⟩ : ∃ i : Nat, r = (i : Int) := ⟨r.toNat, by omega⟩
  have hi : i < l.length := by omega
  have e2 : rdOf ByteArray.empty l (i : Int) = l[i] := getD_at hi
  rw [e2]
  exact List.getElem_mem hi

theorem among_is {A : List Int} (hA : Code A) {a : Int} (s : Int) (l : List Int) (hl : 0 < l.length) (h0 : 0 ≤ a) (h1 : a ≤ 900000) : ∃ x a' s', spec_l1Cur_among.f A a s l = some (x, a', s') ∧ 0 ≤ a' ∧ a' ≤ a + 2 := by
  obtain ⟨r, a', s', e, hr, hr2, h⟩ := pick_is hA s (l.length : Int) h0 h1
  unfold spec_l1Cur_among.f
  simp only [e, Option.bind_some]
  rw [if_pos hr, if_pos (by omega)]
  exact ⟨_, _, _, rfl, h⟩

theorem logRecord_is {A : List Int} (hA : Code A) {a : Int} (s : Int) (h0 : 0 ≤ a) (h1 : a ≤ 800000) : ∃ c q a' s', spec_l1Cur_logRecord.f A a s = some (bs c, bs q, a', s') ∧ c.length ≤ 100 ∧ q.length ≤ 100 ∧ 0 ≤ a' ∧ a' ≤ a + 8 := by
  have z1 : ∀ x ∈ ([(⟨#[108, 105, 115, 116]⟩ : ByteArray), (⟨#[110, 101, 119, 32, 52]⟩ : ByteArray), (⟨#[120]⟩ : ByteArray), (⟨#[100, 114, 111, 112, 32, 50]⟩ : ByteArray), (⟨#[48, 32, 49]⟩ : ByteArray)] : List ByteArray), x.size ≤ 100 := by
    intro x hx
    simp only [List.mem_cons, List.not_mem_nil, or_false] at hx
    rcases hx with rfl | rfl | rfl | rfl | rfl <;> decide
  have z2 : ∀ x ∈ ([(⟨#[]⟩ : ByteArray), (⟨#[51]⟩ : ByteArray), (⟨#[63]⟩ : ByteArray), (⟨#[97, 64, 98]⟩ : ByteArray), (⟨#[51, 32, 49, 32, 50]⟩ : ByteArray)] : List ByteArray), x.size ≤ 100 := by
    intro x hx
    simp only [List.mem_cons, List.not_mem_nil, or_false] at hx
    rcases hx with rfl | rfl | rfl | rfl | rfl <;> decide
  have z3 : ∀ x ∈ ([(⟨#[]⟩ : ByteArray), (⟨#[97, 64, 98]⟩ : ByteArray), (⟨#[97, 35]⟩ : ByteArray), (⟨#[10]⟩ : ByteArray), strOfNums (List.replicate 3 0)] : List ByteArray), x.size ≤ 100 := by
    intro x hx
    simp only [List.mem_cons, List.not_mem_nil, or_false] at hx
    rcases hx with rfl | rfl | rfl | rfl | rfl <;> decide
  have z4 : ∀ x ∈ ([(⟨#[35]⟩ : ByteArray), (⟨#[10]⟩ : ByteArray), (⟨#[127]⟩ : ByteArray)] : List ByteArray), x.size ≤ 100 := by
    intro x hx
    simp only [List.mem_cons, List.not_mem_nil, or_false] at hx
    rcases hx with rfl | rfl | rfl <;> decide
  have fin : ∀ (c q : ByteArray) (a' s' : Int), c.size ≤ 100 → q.size ≤ 100 → 0 ≤ a' → a' ≤ a + 8 → ∃ c2 q2 a2 s2, (some (c, q, a', s') : Option (ByteArray × ByteArray × Int × Int)) = some (bs c2, bs q2, a2, s2) ∧ c2.length ≤ 100 ∧ q2.length ≤ 100 ∧ 0 ≤ a2 ∧ a2 ≤ a + 8 := by
    intro c q a' s' hc hq h2 h3
    refine ⟨c.data.toList, q.data.toList, a', s', by rw [← bs_of, ← bs_of], ?_, ?_, h2, h3⟩
    · rw [← bs_size, ← bs_of]; exact hc
    · rw [← bs_size, ← bs_of]; exact hq
  unfold spec_l1Cur_logRecord.f
  obtain ⟨c, a1, s1, e1, m1, h2⟩ := of_is_ hA s ([(⟨#[108, 105, 115, 116]⟩ : ByteArray), (⟨#[110, 101, 119, 32, 52]⟩ : ByteArray), (⟨#[120]⟩ : ByteArray), (⟨#[100, 114, 111, 112, 32, 50]⟩ : ByteArray), (⟨#[48, 32, 49]⟩ : ByteArray)] : List ByteArray) (by decide) h0 (by omega)
  simp only [e1, Option.bind_some]
  obtain ⟨q, a2, s2, e2, m2, h3⟩ := of_is_ hA s1 ([(⟨#[]⟩ : ByteArray), (⟨#[51]⟩ : ByteArray), (⟨#[63]⟩ : ByteArray), (⟨#[97, 64, 98]⟩ : ByteArray), (⟨#[51, 32, 49, 32, 50]⟩ : ByteArray)] : List ByteArray) (by decide) h2.1 (by omega)
  simp only [e2, Option.bind_some]
  obtain ⟨r, a3, s3, e3, _, _, h4⟩ := pick_is hA s2 24 h3.1 (by omega)
  simp only [e3, Option.bind_some]
  by_cases c1 : r = 0
  · obtain ⟨c', a4, s4, e4, m4, h5⟩ := of_is_ hA s3 ([(⟨#[]⟩ : ByteArray), (⟨#[97, 64, 98]⟩ : ByteArray), (⟨#[97, 35]⟩ : ByteArray), (⟨#[10]⟩ : ByteArray), strOfNums (List.replicate 3 0)] : List ByteArray) (by decide) h4.1 (by omega)
    simp only [if_pos c1, e4, Option.bind_some, show (3 : Nat) ≤ 281474976710656 from by decide, if_true]
    exact fin _ _ _ _ (z3 _ m4) (z2 _ m2) h5.1 (by omega)
  · by_cases c2 : r = 1
    · obtain ⟨c', a4, s4, e4, m4, h5⟩ := of_is_ hA s3 ([(⟨#[35]⟩ : ByteArray), (⟨#[10]⟩ : ByteArray), (⟨#[127]⟩ : ByteArray)] : List ByteArray) (by decide) h4.1 (by omega)
      simp only [if_neg c1, if_pos c2, e4, Option.bind_some]
      exact fin _ _ _ _ (z1 _ m1) (z4 _ m4) h5.1 (by omega)
    · simp only [if_neg c1, if_neg c2]
      exact fin _ _ _ _ (z1 _ m1) (z2 _ m2) h4.1 (by omega)

theorem spoilt_is {A : List Int} (hA : Code A) {a : Int} (s : Int) (x y : ByteArray) (hx : x.size ≤ 1000000) (hy : 1 ≤ y.size) (hy2 : y.size ≤ 100) (h0 : 0 ≤ a) (h1 : a ≤ 800000) : ∃ t a' s', spec_l1Cur_spoilt.f A a s x y = some (t, a', s') ∧ t.size ≤ x.size + 1 ∧ 0 ≤ a' ∧ a' ≤ a + 6 := by
  unfold spec_l1Cur_spoilt.f
  by_cases c0 : x.toList = ([] : List UInt8)
  · simp only [if_pos c0, show (0 : Int) ≤ 1 from by decide, if_true, if_pos (show (1 : Int) ≤ (y.size : Int) by omega)]
    exact ⟨_, _, _, rfl, by rw [ByteArray.size_extract]; omega, h0, by omega⟩
  · simp only [if_neg c0]
    have hx1 : 1 ≤ x.size := by
      by_cases hz : x.size = 0
      · exfalso
        apply c0
        rw [toList_is]
        exact List.eq_nil_of_length_eq_zero (by simpa using hz)
      · omega
    obtain ⟨p, a1, s1, e1, p0, p1, h2⟩ := pick_is hA s (x.size : Int) h0 (by omega)
    simp only [e1, Option.bind_some]
    obtain ⟨q, a2, s2, e2, q0, q1, h3⟩ := pick_is hA s1 (y.size : Int) h2.1 (by omega)
    simp only [e2, Option.bind_some]
    obtain ⟨i, rfl⟩ : ∃ i : Nat, p = (i : Int) := ⟨p.toNat, by omega⟩
    obtain ⟨j, rfl⟩ : ∃ j : Nat, q = (j : Int) := ⟨q.toNat, by omega⟩
    have hi : i < x.size := by omega
    have hj : j < y.size := by omega
    rw [w64 (n := (i : Int) + 1) (by omega) (by omega)]
    simp only [Int.toNat_natCast]
    have y1 : (y.extract j y.size).size = y.size - j := by rw [ByteArray.size_extract]; omega
    have y2 : ((y.extract j y.size).extract 0 1).size = 1 := by rw [ByteArray.size_extract, y1]; omega
    have x1 : (x.extract 0 i).size = i := by rw [ByteArray.size_extract]; omega
    have x2 : (x.extract i x.size).size = x.size - i := by rw [ByteArray.size_extract]; omega
    have x3 : (x.extract ((i : Int) + 1).toNat x.size).size = x.size - (i + 1) := by rw [ByteArray.size_extract]; omega
    rw [if_pos (by omega), if_pos (by omega), if_pos (by omega), if_pos (by rw [y1]; omega)]
    obtain ⟨r, a3, s3, e3, r0, r1, h4⟩ := pick_is hA s2 3 h3.1 (by omega)
    simp only [e3, Option.bind_some]
    by_cases c1 : r = 0
    · rw [if_pos c1, if_pos (by omega), if_pos (by omega), if_pos (by rw [x1, y2]; omega), if_pos (by rw [ByteArray.size_append, x1, y2, x2]; omega)]
      exact ⟨_, _, _, rfl, by rw [ByteArray.size_append, ByteArray.size_append, x1, y2, x2]; omega, h4.1, by omega⟩
    · rw [if_neg c1]
      by_cases c2 : r = 1
      · rw [if_pos c2, if_pos (by omega), if_pos (by omega), if_pos (by rw [x1, y2]; omega), if_pos (by omega), if_pos (by omega), if_pos (by rw [ByteArray.size_append, x1, y2, x3]; omega)]
        exact ⟨_, _, _, rfl, by rw [ByteArray.size_append, ByteArray.size_append, x1, y2, x3]; omega, h4.1, by omega⟩
      · rw [if_neg c2, if_pos (by omega), if_pos (by omega), if_pos (by omega), if_pos (by omega), if_pos (by rw [x1, x3]; omega)]
        exact ⟨_, _, _, rfl, by rw [ByteArray.size_append, x1, x3]; omega, h4.1, by omega⟩

/-- What an append leaves: a little more. -/
theorem append_small {D P c q : Bs} {n : Int} (hD : D.length ≤ 1000000) (hP : P.length ≤ 1000000) (hc : c.length ≤ 1000000) (hq : q.length ≤ 1000000) : ∃ D' P' n' x, Ter (fun k => spec_AppendRecord.f k (bs D) (bs P) n (bs c) (bs q)) (bs D', bs P', n', x) ∧ D'.length + P'.length ≤ D.length + P.length + 500 := by
  have h := specAppend_is (specValid_is n (D := D) (P := P) (by omega) (by omega)) (fun h => valid_len h) (by omega) (by omega) (c := c) (q := q) (by omega) (by omega)
  unfold appR at h
  cases hv : validB D P n with
  | false => rw [hv] at h; exact ⟨D, P, n, 1, h, by omega⟩
  | true =>
    rw [hv] at h
    cases ho : okRec c q with
    | false => rw [ho] at h; exact ⟨D, P, n, 1, h, by omega⟩
    | true =>
      rw [ho] at h
      have hn := valid_len hv
      by_cases h60 : n = 60
      · simp only [Bool.and_self, cond_true, if_pos h60] at h
        exact ⟨D, P, n, 2, h, by omega⟩
      · simp only [Bool.and_self, cond_true, if_neg h60] at h
        have hl := line_len (k := n) (by omega) (by omega) ho
        exact ⟨D, P ++ lineB n c q, n + 1, 0, h, by rw [List.length_append]; omega⟩

theorem sync_small {D P : Bs} {n : Int} (hD : D.length ≤ 1000000) (hP : P.length ≤ 1000000) : ∃ D' P' n' x, Ter (fun k => spec_SyncLog.f k (bs D) (bs P) n) (bs D', bs P', n', x) ∧ D'.length + P'.length ≤ D.length + P.length := by
  have h := specSync_is (specValid_is n (D := D) (P := P) (by omega) (by omega)) (by omega) (by omega)
  cases hv : validB D P n with
  | false => rw [hv] at h; exact ⟨[], [], 0, false, h, by simp⟩
  | true => rw [hv] at h; exact ⟨D ++ P, [], n, true, h, by simp⟩
end Go.Proofs.YtoghambpbpgodaaDoor.P
namespace Go.Proofs.YtoghambpbpgodaaDoor.P
open Go.RowKit Go.Proofs.YtoghambpbpgodaaDoorW.PrintWords Go.Proofs.YtoghambpbpgodaaDoorW.PrintLast Go.Proofs.YtoghambpbpgodaaDoorW.PrintMore
set_option linter.unusedVariables false
set_option linter.unusedSimpArgs false

theorem log12_l {A : List Int} (hA : Code A) (j : Nat) : ∀ (D P : Bs) (n a s : Int), D.length + P.length + 500 * j ≤ 900000 → 0 ≤ a → a + 20 * j ≤ 700000 → ∃ D' P' n' a' s', Ter (fun k => spec_l1Cur_log12.l0 k (j : Int) A a s (bs D) (bs P) n) (bs D', bs P', n', a', s') ∧ D'.length + P'.length ≤ D.length + P.length + 500 * j ∧ 0 ≤ a' ∧ a' ≤ a + 20 * j := by
  induction j with
  | zero =>
    intro D P n a s _ h0 _
    exact ⟨D, P, n, a, s, Ter.succ (by simp only [spec_l1Cur_log12.l0]; exact Ter.ifn (by omega) (Ter.ret _)), by omega, h0, by omega⟩
  | succ j ih =>
    intro D P n a s hl h0 h1
    obtain ⟨c, q, a1, s1, e1, hc, hq, h2⟩ := logRecord_is hA s h0 (by omega)
    obtain ⟨D1, P1, n1, x1, t1, hl1⟩ := append_small (n := n) (D := D) (P := P) (c := c) (q := q) (by omega) (by omega) (by omega) (by omega)
    obtain ⟨b, a2, s2, e2, h3⟩ := one_is_ hA s1 4 h2.1 (by omega)
    have ej : wrap64 (((j + 1 : Nat) : Int) - 1) = (j : Int) := by rw [w64 (by omega) (by omega)]; omega
    cases b with
    | true =>
      obtain ⟨D2, P2, n2, x2, t2, hl2⟩ := sync_small (n := n1) (D := D1) (P := P1) (by omega) (by omega)
      obtain ⟨D', P', n', a', s', t, hl', h4⟩ := ih D2 P2 n2 a2 s2 (by omega) h3.1 (by omega)
      refine ⟨D', P', n', a', s', Ter.succ ?_, by omega, h4.1, by omega⟩
      simp only [spec_l1Cur_log12.l0, ej]
      exact Ter.ifp (by omega) (Ter.bind (Ter.const e1) (t1.bind (Ter.bind (Ter.const e2) (Ter.ifp rfl (t2.bind t)))))
    | false =>
      obtain ⟨D', P', n', a', s', t, hl', h4⟩ := ih D1 P1 n1 a2 s2 (by omega) h3.1 (by omega)
      refine ⟨D', P', n', a', s', Ter.succ ?_, by omega, h4.1, by omega⟩
      simp only [spec_l1Cur_log12.l0, ej]
      exact Ter.ifp (by omega) (Ter.bind (Ter.const e1) (t1.bind (Ter.bind (Ter.const e2) (Ter.ifn (by simp) t))))

theorem log12_is {A : List Int} (hA : Code A) {a : Int} (s : Int) (h0 : 0 ≤ a) (h1 : a ≤ 600000) : ∃ D P n a' s', Ter (fun k => spec_l1Cur_log12.f k A a s) (bs D, bs P, n, a', s') ∧ D.length + P.length ≤ 4000 ∧ 0 ≤ a' ∧ a' ≤ a + 200 := by
  obtain ⟨r, a1, s1, e1, r0, r1, h2⟩ := pick_is hA s 7 h0 (by omega)
  obtain ⟨j, rfl⟩ : ∃ j : Nat, r = (j : Int) := ⟨r.toNat, by omega⟩
  obtain ⟨D', P', n', a', s', t, hl', h4⟩ := log12_l hA j [] [] 0 a1 s1 (by simp only [List.length_nil]; omega) h2.1 (by omega)
  refine ⟨D', P', n', a', s', ?_, by simp only [List.length_nil] at hl'; omega, h4.1, by omega⟩
  unfold spec_l1Cur_log12.f
  simp only [e1, Option.bind_some]
  exact t

theorem anyLog_is {A : List Int} (hA : Code A) {a : Int} (s : Int) (h0 : 0 ≤ a) (h1 : a ≤ 500000) : ∃ D P n a' s', Ter (fun k => spec_l1Cur_anyLog.f k A a s) (bs D, bs P, n, a', s') ∧ D.length + P.length ≤ 10000 ∧ 0 ≤ a' ∧ a' ≤ a + 300 := by
  obtain ⟨D, P, n, a1, s1, t1, hl, h2⟩ := log12_is hA s h0 (by omega)
  obtain ⟨r, a2, s2, e2, _, _, h3⟩ := pick_is hA s1 24 h2.1 (by omega)
  by_cases c1 : r = 0
  · refine ⟨D, P, wrap64 (n + 1), a2, s2, t1.bind ?_, by omega, h3.1, by omega⟩
    simp only [e2, Option.bind_some]
    exact Ter.ifp c1 (Ter.ret _)
  · by_cases c2 : r = 1
    · obtain ⟨t, a3, s3, e3, hz, h4⟩ := spoilt_is hA s2 (bs P) (⟨#[35, 64, 10, 48, 49]⟩ : ByteArray) (by rw [bs_size]; omega) (by decide) (by decide) h3.1 (by omega)
      rw [bs_size] at hz
      have hz2 : t.data.toList.length ≤ P.length + 1 := by rw [← bs_size, ← bs_of]; exact hz
      refine ⟨D, t.data.toList, n, a3, s3, t1.bind ?_, by omega, h4.1, by omega⟩
      simp only [e2, e3, Option.bind_some]
      exact Ter.ifn c1 (Ter.ifp c2 (Ter.some_ (by rw [← bs_of])))
    · by_cases c3 : r = 2
      · refine ⟨D ++ P, P, n, a2, s2, t1.bind ?_, by rw [List.length_append]; omega, h3.1, by omega⟩
        simp only [e2, Option.bind_some]
        exact Ter.ifn c1 (Ter.ifn c2 (Ter.ifp c3 (Ter.ifp (by rw [bs_size, bs_size]; omega) (Ter.some_ (by rw [bs_app])))))
      · refine ⟨D, P, n, a2, s2, t1.bind ?_, by omega, h3.1, by omega⟩
        simp only [e2, Option.bind_some]
        exact Ter.ifn c1 (Ter.ifn c2 (Ter.ifn c3 (Ter.ret _)))

theorem DrawIsValidRecord_is {A : List Int} (hA : Code A) : ∃ c q, spec_DrawIsValidRecord.f A = some (bs c, bs q) ∧ c.length ≤ 100 ∧ q.length ≤ 100 := by
  obtain ⟨c, q, a1, s1, e1, hc, hq, _⟩ := logRecord_is hA 0 (a := 0) (by omega) (by omega)
  unfold spec_DrawIsValidRecord.f
  simp only [e1, Option.bind_some]
  exact ⟨c, q, rfl, hc, hq⟩

theorem DrawEncodeRecord_is {A : List Int} (hA : Code A) : ∃ n c q, spec_DrawEncodeRecord.f A = some (n, bs c, bs q) ∧ c.length ≤ 100 ∧ q.length ≤ 100 := by
  obtain ⟨x, a1, s1, e1, h⟩ := among_is hA 0 (a := 0) ([0, 1, 12, 59, 60, (-1)] : List Int) (by decide) (by omega) (by omega)
  obtain ⟨c, q, a2, s2, e2, hc, hq, _⟩ := logRecord_is hA s1 h.1 (by omega)
  unfold spec_DrawEncodeRecord.f
  simp only [e1, e2, Option.bind_some]
  exact ⟨x, c, q, rfl, hc, hq⟩

theorem DrawIsValidLog_is {A : List Int} (hA : Code A) : ∃ D P n, Ter (fun k => spec_DrawIsValidLog.f k A) (bs D, bs P, n) ∧ D.length + P.length ≤ 10000 := by
  obtain ⟨D, P, n, a', s', t, hl, _⟩ := anyLog_is hA 0 (a := 0) (by omega) (by omega)
  exact ⟨D, P, n, t.bind (Ter.ret _), hl⟩

theorem DrawAppend_l {A : List Int} (hA : Code A) (j : Nat) : ∀ (D P : Bs) (n a s : Int), D.length + P.length + 500 * j ≤ 900000 → 0 ≤ a → a ≤ 700000 → ∃ D' P' n' c q, Ter (fun k => spec_DrawAppendRecord.l0 k (j : Int) A a s (bs D) (bs P) n) (bs D', bs P', n', bs c, bs q) ∧ D'.length + P'.length ≤ D.length + P.length + 500 * j ∧ c.length ≤ 100 ∧ q.length ≤ 100 := by
  induction j with
  | zero =>
    intro D P n a s _ h0 h1
    obtain ⟨c, q, a1, s1, e1, hc, hq, h2⟩ := logRecord_is hA s h0 (by omega)
    refine ⟨D, P, n, c, q, Ter.succ ?_, by omega, hc, hq⟩
    simp only [spec_DrawAppendRecord.l0, e1, Option.bind_some]
    exact Ter.ifn (by omega) (Ter.ret _)
  | succ j ih =>
    intro D P n a s hl h0 h1
    obtain ⟨D1, P1, n1, x1, t1, hl1⟩ := append_small (n := n) (D := D) (P := P) (c := [120]) (q := []) (by omega) (by omega) (by decide) (by decide)
    obtain ⟨D', P', n', c, q, t, hl', h4⟩ := ih D1 P1 n1 a s (by omega) h0 h1
    have ej : wrap64 (((j + 1 : Nat) : Int) - 1) = (j : Int) := by rw [w64 (by omega) (by omega)]; omega
    refine ⟨D', P', n', c, q, Ter.succ ?_, by omega, h4⟩
    simp only [spec_DrawAppendRecord.l0, ej]
    exact Ter.ifp (by omega) (t1.bind t)

theorem DrawAppendRecord_is {A : List Int} (hA : Code A) : ∃ D P n c q, Ter (fun k => spec_DrawAppendRecord.f k A) (bs D, bs P, n, bs c, bs q) ∧ D.length + P.length ≤ 100000 ∧ c.length ≤ 100 ∧ q.length ≤ 100 := by
  obtain ⟨D, P, n, a1, s1, t1, hl, h1⟩ := anyLog_is hA 0 (a := 0) (by omega) (by omega)
  obtain ⟨b, a2, s2, e2, h2⟩ := one_is_ hA s1 40 h1.1 (by omega)
  cases b with
  | true =>
    obtain ⟨r, a3, s3, e3, r0, r1, h3⟩ := pick_is hA s2 2 h2.1 (by omega)
    obtain ⟨j, hj⟩ : ∃ j : Nat, wrap64 (59 + r) = (j : Int) := ⟨(59 + r).toNat, by rw [w64 (by omega) (by omega)]; omega⟩
    have hj2 : j ≤ 100 := by rw [w64 (by omega) (by omega)] at hj; omega
    obtain ⟨D', P', n', c, q, t, hl', h4⟩ := DrawAppend_l hA j [] [] 0 a3 s3 (by simp only [List.length_nil]; omega) h3.1 (by omega)
    refine ⟨D', P', n', c, q, t1.bind ?_, by simp only [List.length_nil] at hl'; omega, h4⟩
    simp only [e2, e3, Option.bind_some, hj]
    exact Ter.ifp trivial t
  | false =>
    obtain ⟨c, q, a3, s3, e3, hc, hq, _⟩ := logRecord_is hA s2 h2.1 (by omega)
    refine ⟨D, P, n, c, q, t1.bind ?_, by omega, hc, hq⟩
    simp only [e2, e3, Option.bind_some]
    exact Ter.ifn (by decide) (Ter.ret _)

theorem vCut_is {A : List Int} (hA : ∀ z ∈ A, 0 ≤ z ∧ z ≤ 255) (hl : A.length ≤ 65536) (m : Nat) : ∃ B, laws_vCut.f A (m : Int) = some B ∧ Code B := by
  unfold laws_vCut.f
  have key : ∀ i : Nat, i ≤ A.length → ∃ B, (some ([] ++ A.drop i ++ [(i : Int) % 256]) : Option (List Int)) = some B ∧ Code B := by
    intro i hi
    refine ⟨_, rfl, ?_, ?_⟩
    · intro z hz
      simp only [List.nil_append, List.mem_append, List.mem_singleton] at hz
      rcases hz with hz | rfl
      · exact hA z (List.mem_of_mem_drop hz)
      · omega
    · simp only [List.nil_append, List.length_append, List.length_drop, List.length_singleton]; omega
  by_cases c1 : (m : Int) > (A.length : Int)
  · rw [if_pos c1]
    simp only [Option.bind_some, Int.toNat_natCast, List.length_nil, List.nil_append, List.length_drop, Nat.sub_self]
    rw [if_pos (by omega), if_pos (by omega), if_pos (by omega), if_pos (by omega)]
    exact key A.length (Nat.le_refl _)
  · rw [if_neg c1]
    simp only [Option.bind_some, Int.toNat_natCast, List.length_nil, List.nil_append, List.length_drop]
    rw [if_pos (by omega), if_pos (by omega), if_pos (by omega), if_pos (by omega)]
    exact key m (by omega)

theorem vRecords_is (R : List S25) (hR : R.length ≤ 1000) : Ter (fun k => laws_vRecords.f k R R) true := by
  unfold laws_vRecords.f
  refine Ter.ifp rfl ?_
  exact down_ (Q := fun i => Ter (fun k => laws_vRecords.l0 k R R (i : Int)) true) R.length
    (Ter.succ (by simp only [laws_vRecords.l0]; exact Ter.ifn (by omega) (Ter.ret _)))
    (fun i hi ih => by
      refine Ter.succ ?_
      simp only [laws_vRecords.l0, w64s hi (show R.length ≤ 9223372036854775807 by omega)]
      exact Ter.ifp (by omega) (Ter.ifp (by omega) (Ter.ifp (by omega) (Ter.ifn (by simp) ih)))) 0 (by omega)
end Go.Proofs.YtoghambpbpgodaaDoor.P
namespace Go.Proofs.YtoghambpbpgodaaDoor.P
open Go.RowKit Go.Proofs.YtoghambpbpgodaaDoorW.PrintWords Go.Proofs.YtoghambpbpgodaaDoorW.PrintLast Go.Proofs.YtoghambpbpgodaaDoorW.PrintMore
set_option linter.unusedVariables false
set_option linter.unusedSimpArgs false

theorem big_is (l : List Int) : laws_vBig.f l = some (decide ((l.length : Int) > 65536)) := rfl

/-- The third part: the appended log. -/
theorem logs_j2 {D P c q : Bs} {n : Int} (hD : D.length ≤ 200000) (hP : P.length ≤ 200000) (hc : c.length ≤ 1000) (hq : q.length ≤ 1000) (D' P' : ByteArray) (n' x : Int) (hr : appR D P c q n (validB D P n) = (D', P', n', x)) : Ter (fun k => laws_FnLogs.j2 k x (bif validB D P n then (recs 60 0 (D ++ P)).map toRec else []) false (bs D) (bs P) n (bs c) (bs q) D' P' n') true := by
  refine Ter.succ ?_
  simp only [laws_FnLogs.j2]
  refine Ter.ifn (by decide) ?_
  unfold appR at hr
  cases hv : validB D P n with
  | false =>
    rw [hv] at hr
    simp only [Bool.false_and, cond_false, Prod.mk.injEq] at hr
    obtain ⟨rfl, rfl, rfl, rfl⟩ := hr
    exact Ter.ifn (by decide) (Ter.some_ (by simp))
  | true =>
    rw [hv] at hr
    cases ho : okRec c q with
    | false =>
      rw [ho] at hr
      simp only [Bool.and_false, cond_false, Prod.mk.injEq] at hr
      obtain ⟨rfl, rfl, rfl, rfl⟩ := hr
      exact Ter.ifn (by decide) (Ter.some_ (by simp))
    | true =>
      rw [ho] at hr
      by_cases h60 : n = 60
      · simp only [Bool.and_self, cond_true, if_pos h60, Prod.mk.injEq] at hr
        obtain ⟨rfl, rfl, rfl, rfl⟩ := hr
        exact Ter.ifn (by decide) (Ter.some_ (by simp))
      · simp only [Bool.and_self, cond_true, if_neg h60, Prod.mk.injEq] at hr
        obtain ⟨rfl, rfl, rfl, rfl⟩ := hr
        obtain ⟨hv2, hrec⟩ := append_valid hv h60 ho
        have hn := valid_len hv
        have hn2 := valid_len hv2
        have hl := line_len (k := n) (by omega) (by omega) ho
        have hvI : Ter (fun k => impl_IsValidLog.f k (bs D) (bs (P ++ lineB n c q)) (n + 1)) true := by
          have := implValid_is (D := D) (P := P ++ lineB n c q) (n + 1) (by omega) (by rw [List.length_append]; omega)
          rw [hv2] at this
          exact this
        have hR := implRecords_is (D := D) (P := P ++ lineB n c q) hvI (fun _ => hn2.2.2)
        simp only [cond_true, hrec, List.map_append, List.map_cons, List.map_nil] at hR
        have hlen := recs_len 60 0 (D ++ P)
        simp only [cond_true]
        have hRl : ((recs 60 0 (D ++ P)).map toRec).length ≤ 60 := by rw [List.length_map]; exact hlen
        generalize (recs 60 0 (D ++ P)).map toRec = R at hR hRl
        refine Ter.ifp (by trivial) (hR.bind (hvI.bind (Ter.ifp rfl ?_)))
        simp only [List.length_append, List.length_cons, List.length_nil, Nat.zero_add]
        rw [w64 (n := (R.length : Int) + 1) (by omega) (by omega)]
        have e1 : (R ++ [toRec (c, q)]).take ((R.length : Int) : Int).toNat = R := by rw [Int.toNat_natCast, List.take_left]
        have e2 : rd_T25 (R ++ [toRec (c, q)]) (R.length : Int) = toRec (c, q) := by
          rw [rdT_at (by rw [List.length_append, List.length_singleton]; omega), List.getElem_append_right (Nat.le_refl _)]
          simp
        rw [e1, e2]
        refine Ter.ifp (by omega) (Ter.ifp (by omega) (Ter.ifp (by omega) ((vRecords_is R (by omega)).bind (Ter.ifp rfl (Ter.ifp (by omega) (Ter.some_ ?_))))))
        simp [toRec]

theorem logs_j1 {D P c q : Bs} {n : Int} (hD : D.length ≤ 200000) (hP : P.length ≤ 200000) (hc : c.length ≤ 1000) (hq : q.length ≤ 1000) (D' P' : ByteArray) (n' x : Int) (hr : appR D P c q n (validB D P n) = (D', P', n', x)) (S T : ByteArray) (m : Int) (ok : Bool) (hs : (bif validB D P n then (bs (D ++ P), bs [], n, true) else (bs [], bs [], 0, false)) = (S, T, m, ok)) : Ter (fun k => laws_FnLogs.j1 k x ok (bif validB D P n then (recs 60 0 (D ++ P)).map toRec else []) false (bs D) (bs P) n (bs c) (bs q) D' P' n' S T m) true := by
  refine Ter.succ ?_
  simp only [laws_FnLogs.j1]
  refine Ter.ifn (by decide) ?_
  have h2 := logs_j2 hD hP hc hq D' P' n' x hr
  clear hr
  cases hv : validB D P n with
  | false =>
    rw [hv] at h2 hs
    simp only [cond_false, Prod.mk.injEq] at hs
    obtain ⟨rfl, rfl, rfl, rfl⟩ := hs
    have hR := implRecords_is (implValid_is (D := []) (P := []) 0 (by decide) (by decide)) (fun _ => by decide)
    exact hR.bind (Ter.ifn (by decide) h2)
  | true =>
    rw [hv] at h2 hs
    simp only [cond_true, Prod.mk.injEq] at hs
    obtain ⟨rfl, rfl, rfl, rfl⟩ := hs
    have hn := valid_len hv
    obtain ⟨p1, p2, p3, p4⟩ := valid_parts.1 hv
    have hv2 : validB (D ++ P) [] n = true := valid_parts.2 ⟨by simp only [List.length_append, List.length_nil]; omega, by rw [List.append_nil, List.length_append, List.length_nil]; exact p2, by rw [List.length_append]; exact p2, by rw [List.append_nil]; exact p4⟩
    have hvI : Ter (fun k => impl_IsValidLog.f k (bs (D ++ P)) (bs []) n) true := by
      have := implValid_is (D := D ++ P) (P := []) n (by rw [List.length_append]; omega) (by decide)
      rw [hv2] at this
      exact this
    have hR := implRecords_is hvI (fun _ => (valid_len hv2).2.2)
    rw [List.append_nil] at hR
    have hlen := recs_len 60 0 (D ++ P)
    refine hR.bind (Ter.ifp rfl ?_)
    simp only [cond_true]
    exact (vRecords_is _ (by rw [List.length_map]; omega)).bind h2

theorem logs_j0 {D P c q : Bs} {n : Int} (hD : D.length ≤ 200000) (hP : P.length ≤ 200000) (hc : c.length ≤ 1000) (hq : q.length ≤ 1000) (D' P' : ByteArray) (n' x : Int) (hr : appR D P c q n (validB D P n) = (D', P', n', x)) : Ter (fun k => laws_FnLogs.j0 k x false (bs D) (bs P) n (bs c) (bs q) D' P' n') true := by
  refine Ter.succ ?_
  simp only [laws_FnLogs.j0]
  refine Ter.ifn (by decide) ?_
  have h1 := logs_j1 hD hP hc hq D' P' n' x hr
  have hv : validB D P n = true → D.length + P.length ≤ 30000 := fun h => (valid_len h).2.2
  have hsv := specValid_is n (D := D) (P := P) (by omega) (by omega)
  have hiv := implValid_is n (D := D) (P := P) (by omega) (by omega)
  have hS1 := specSync_is hsv (by omega) (by omega)
  have hS2 := implSync_is hiv (by omega) (by omega)
  have hR1 := specRecords_is hsv hv
  have hR2 := implRecords_is hiv hv
  have hlen := recs_len 60 0 (D ++ P)
  have hRl : (bif validB D P n then (recs 60 0 (D ++ P)).map toRec else []).length ≤ 60 := by
    cases validB D P n with
    | true => simp only [cond_true, List.length_map]; exact hlen
    | false => exact Nat.zero_le _
  generalize (bif validB D P n then (recs 60 0 (D ++ P)).map toRec else []) = R at h1 hR1 hR2 hRl
  obtain ⟨S, T, m, ok, hs⟩ : ∃ S T m ok, (bif validB D P n then (bs (D ++ P), bs [], n, true) else (bs [], bs [], 0, false)) = (S, T, m, ok) := ⟨_, _, _, _, rfl⟩
  have h1 := h1 S T m ok hs
  rw [hs] at hS1 hS2
  refine hS2.bind (hS1.bind (hR2.bind (hR1.bind ?_)))
  exact Ter.ifn (by simp) (Ter.ifn (by simp) (Ter.ifn (by simp) ((vRecords_is R (by omega)).bind h1)))

theorem FnLogs.pure (l0 : List Int) (W0 : l0.length ≤ maxLen ∧ ∀ z ∈ l0, (Lit.int .u8 z).wf = true) : ∃ k, laws_FnLogs.f k l0 = some true := by
  have hb : ∀ z ∈ l0, 0 ≤ z ∧ z ≤ 255 := fun z hz => by
    have := W0.2 z hz
    simp only [Lit.wf, Bool.and_eq_true, decide_eq_true_eq] at this
    exact this
  have key : Ter (fun k => laws_FnLogs.f k l0) true := by
    unfold laws_FnLogs.f
    refine Ter.bind (Ter.const (big_is l0)) ?_
    by_cases h0 : (l0.length : Int) > 65536
    · exact Ter.ifp (decide_eq_true h0) (Ter.ret _)
    · refine Ter.ifn (by simp only [decide_eq_true_eq]; exact h0) ?_
      have hA : Code l0 := ⟨hb, by omega⟩
      obtain ⟨c1, q1, e1, hc1, hq1⟩ := DrawIsValidRecord_is hA
      obtain ⟨A1, v1, hA1⟩ := vCut_is hb (by omega) 1
      obtain ⟨n2, c2, q2, e2, hc2, hq2⟩ := DrawEncodeRecord_is hA1
      obtain ⟨A2, v2, hA2⟩ := vCut_is hb (by omega) 2
      obtain ⟨D3, P3, n3, t3, hl3⟩ := DrawIsValidLog_is hA2
      obtain ⟨A3, v3, hA3⟩ := vCut_is hb (by omega) 3
      obtain ⟨D, P, n, c, q, t4, hl4, hc, hq⟩ := DrawAppendRecord_is hA3
      have hE1 := specEncode_is (c := c2) (r := q2) n2 (by omega) (by omega)
      have hE2 := implEncode_is (c := c2) (r := q2) n2 (by omega) (by omega)
      obtain ⟨y, z, hy⟩ : ∃ y z, encB n2 c2 q2 = (y, z) := ⟨_, _, rfl⟩
      rw [hy] at hE1 hE2
      have hsv := specValid_is n (D := D) (P := P) (by omega) (by omega)
      have hiv := implValid_is n (D := D) (P := P) (by omega) (by omega)
      have hA4 := specAppend_is hsv (fun h => valid_len h) (by omega) (by omega) (c := c) (q := q) (by omega) (by omega)
      have hA5 := implAppend_is hiv (fun h => valid_len h) (by omega) (by omega) (c := c) (q := q) (by omega) (by omega)
      obtain ⟨D', P', n', x, hr⟩ : ∃ D' P' n' x, appR D P c q n (validB D P n) = (D', P', n', x) := ⟨_, _, _, _, rfl⟩
      rw [hr] at hA4 hA5
      have hJ := logs_j0 (D := D) (P := P) (c := c) (q := q) (n := n) (by omega) (by omega) (by omega) (by omega) D' P' n' x hr
      have hV1 := l12Record_is (c := c1) (r := q1) (by omega) (by omega)
      have hV2 := IsValidRecord_is (c := c1) (r := q1) (by omega) (by omega)
      have hW1 : Ter (fun k => spec_IsValidLog.f k (bs D3) (bs P3) n3) (validB D3 P3 n3) := (specValid_is n3 (D := D3) (P := P3) (by omega) (by omega)).bind (Ter.ret _)
      have hW2 := implValid_is n3 (D := D3) (P := P3) (by omega) (by omega)
      have hV3 : Ter (fun k => spec_IsValidRecord.f k (bs c1) (bs q1)) (okRec c1 q1) := hV1.bind (Ter.ret _)
      refine Ter.bind (Ter.const e1) (Ter.bind (Ter.const v1) (Ter.bind (Ter.const e2) (hE2.bind (hE1.bind (Ter.bind (Ter.const v2) (t3.bind (Ter.bind (Ter.const v3) (t4.bind (hA5.bind (hA4.bind (hV2.bind (hV3.bind ?_))))))))))))
      refine Ter.ifn (by simp) (Ter.ifp rfl (Ter.ifn (by simp) (hW2.bind (hW1.bind (Ter.ifn (by simp) (Ter.ifn (by simp) ?_))))))
      simp only [bne_self_eq_false]
      exact hJ
  obtain ⟨K, h⟩ := key
  exact ⟨K, h K (Nat.le_refl _)⟩
end Go.Proofs.YtoghambpbpgodaaDoor.P
namespace Go.Proofs.YtoghambpbpgodaaDoor.fnLogs
open Go.ChangeShapes Go.WideShapes Go.ChangeAt Go.RowKit
open Go.ChangeMaps (open_string shut_string)
open Go.Proofs.YtoghambpbpgodaaDoor.P Go.Proofs.YtoghambpbpgodaaDoor.laidRow Go.Proofs.YtoghambpbpgodaaDoorW.PrintWords Go.Proofs.YtoghambpbpgodaaDoorW.PrintLast Go.Proofs.YtoghambpbpgodaaDoorW.PrintMore
set_option linter.unusedVariables false

theorem call (A0 : Option Addr) (c0 : Nat) (l0 : List Int) (w : World) (h_0 : Kd.C (Kd.int .u8) w A0 l0.length l0) (h_1 : l0.length ≤ c0) (ht : TabOK w) (W_0 : (l0.length ≤ maxLen ∧ ∀ z ∈ l0, (Lit.int .u8 z).wf = true)) :
    Calls Tryd.prog 3 #[.slice A0 l0.length c0] w fun e w' => e = .returned (.bool true) ∧ Below w.heap.size w w' := by
  obtain ⟨k, hk⟩ := P.FnLogs.pure l0 W_0
  exact P.laws_FnLogs.calls k A0 c0 l0 true w h_0 h_1 ht hk rfl

set_option maxRecDepth 100000 in
theorem contract (H : Type) (enc : TypeId × Value → H) (W : World) (base : Nat) (args : Array Value) (ds gs : List (DataW H)) (before : List MemPlace)
    (hval : ∀ (j : Nat) t v, Tryd.f3.params[j]? = some t → args[j]? = some v → Value.okWide Tryd.prog W .any base t v)
    (hW : DataW.Whole enc Tryd.prog Tryd.f3.params.toList Rows.fnLogsSpec.vars false W args.toList ds gs before) (hL : laidMetH Tryd.prog Rows.fnLogsRow.laid W) (hsh : W.ShapedOpen Tryd.prog) :
    Calls Tryd.prog 3 args W fun e W' => ∃ v, e = .returned v ∧ Rows.fnLogsSpec.post enc Tryd.prog Tryd.f3 false true false false W args v W' := by
  have hW' := hW
  obtain ⟨p, q, hA0, hV, rfl, hfz, hnd⟩ := hW
  have hA : DataW.TrodAll enc Tryd.prog W 0 (fun _ => true) true Tryd.f3.params.toList args.toList ds p := hA0
  rw [Tryd.params3] at hA hval
  obtain ⟨v0, vs0, d0, ds0, p0, q0, hargs, rfl, rfl, h0, r0⟩ := trodAll_cons hA
  obtain ⟨rfl, rfl, rfl⟩ := trodAll_nil r0
  obtain rfl : args = #[v0] := by cases args; simp_all
  obtain ⟨rfl, rfl⟩ := trodVars_none hV
  obtain ⟨A0, len0, c0, rfl⟩ := okWide_slice Tryd.underlying22 (hval 0 22 v0 rfl rfl)
  have k0 := h0
  have lt0 : ∀ x ∈ p0, x.block < W.heap.size := by obtain ⟨m, hm⟩ := k0; exact DataW.trod_lt m _ _ _ hm
  obtain ⟨l0, e0, HC0, HR0, W0⟩ : ∃ l : List Int, len0 = l.length ∧ l.length ≤ c0 ∧ Kd.C (Kd.int .u8) W A0 l.length l ∧ (l.length ≤ maxLen ∧ ∀ z ∈ l, (Lit.int .u8 z).wf = true) := by
    obtain ⟨fuel, hf⟩ := h0
    obtain ⟨l, ⟨A_, c_, e_, hc_, hr_⟩, w_⟩ := (P.opens_slice (P := Tryd.prog) Tryd.underlying22 (P.opens_int (P := Tryd.prog) Tryd.underlying5) (by kernel_rfl)) hf rfl
    obtain ⟨rfl, rfl, rfl⟩ := Value.slice.inj (List.cons.inj e_).1
    exact ⟨l, rfl, hc_, hr_, w_⟩
  subst e0
  clear hA0 hval
  refine (call A0 c0 l0 W HR0 HC0 (tabOK hL hsh) W0).mono fun e W' ⟨he, bel⟩ => ?_
  subst he
  exact ⟨_, rfl, _, _, _, [], _, [], hW', trodAll_mk1 (shut_bool Tryd.underlying4 _), (trodAll_cons_mk (Below.trod laidOut (by kernel_rfl) (of_decide_eq_true (by kernel_rfl)) k0 bel lt0) trodAll_mk0), rfl, bel.frame _, fun h => by cases h⟩

set_option maxRecDepth 100000 in
theorem laid_met (os : Os) : laidMet Tryd.prog Rows.fnLogsRow.laid ((laidWorld os).forCall (fun _ _ => 0) ⟨#[], #[.slice none 0 0], []⟩).memory :=
  laidMet_of_run' 8 (by kernel_rfl) (by kernel_rfl)

set_option maxRecDepth 100000 in
theorem reads (os : Os) {H : Type} (enc : TypeId × Value → H) : ∃ places, DataW.whole enc Tryd.prog ((laidWorld os).forCall (fun _ _ => 0) ⟨#[], #[.slice none 0 0], []⟩).memory Tryd.f3.params.toList Rows.fnLogsSpec.vars false (#[.slice none 0 0] : Array Value).toList 8 = some ([.nil], [], places) :=
  ⟨[], by kernel_rfl⟩

set_option maxRecDepth 100000 in
set_option maxHeartbeats 2000000 in
theorem lifted (os : Os) (started : os.Started) (H : Type) (enc : TypeId × Value → H) (F : Stop.Interp) :
    ReturnsInHanded {} Tryd.checked os 3 .any ((OpenSpec.ofChange Rows.fnLogsSpec).preRow enc Tryd.prog Tryd.f3 Rows.fnLogsRow.domain false Rows.fnLogsRow.laid) (((OpenSpec.ofChange Rows.fnLogsSpec).at F).post enc Tryd.prog Tryd.f3 false true false false) := by
  obtain ⟨places, hx⟩ := reads os enc
  refine returnsInHanded_of_row (C := Tryd.checked) (s := OpenSpec.ofChange Rows.fnLogsSpec) own started (by kernel_rfl) Tryd.func3
    (witness_row_at (enc := enc) (C := Tryd.checked) false (laidWorld os) #[.slice none 0 0] rfl (by kernel_rfl) (by kernel_rfl) (by kernel_rfl)
      (OpenSpec.preRow_of_cond 8 hx (by kernel_rfl) (fun k hk => by cases hk) (by kernel_rfl) (laid_met os))) ?_
  intro W base args ds gs before hval hW _ _ _ hL hsh _
  exact contract H enc W base args ds gs before hval hW hL hsh

set_option maxRecDepth 100000 in
theorem cl1 : Tryd.pinned.checked.prog.funcNamed Rows.fnLogsRow.func = some 3 := by kernel_rfl

theorem cl2 : joinedFacts Tryd.pinned.checked.prog 3 Tryd.f3 Rows.fnLogsSpec Rows.fnLogsRow = true := by kernel_rfl

theorem cl3 : Tryd.f3.isInstance Tryd.pinned.checked.prog Rows.fnLogsRow.origin Rows.fnLogsRow.targs := of_decide_eq_true (by kernel_rfl)

theorem cl4 : Tryd.f3.isWrapper Tryd.pinned.checked.prog Rows.fnLogsRow.wrapper Rows.fnLogsRow.mainSum := (by unfold Func.isWrapper; first | (rw [if_pos (by decide +kernel)]; kernel_rfl) | (rw [if_neg (by decide +kernel)]; exact ⟨rfl, rfl⟩))

theorem said : Rows.FnLogsSaid :=
  OpenClaim.holds_of_cond 3 Tryd.f3 rfl rfl rfl rfl rfl rfl rfl ⟨rfl, rfl, rfl, rfl, rfl⟩ rfl rfl rfl rfl rfl cl1 Tryd.func3 cl2 cl3 cl4
    (fun os started H enc _ F => by rw [OpenClaim.pre_eq_preRow]; exact lifted os started H enc F)

theorem plain (f : FuncId) (fn : Func) (hf : Tryd.pinned.checked.prog.funcNamed Rows.fnLogsRow.func = some f) (hfn : Tryd.pinned.checked.prog.funcs[f]? = some fn) :
    false = Tryd.pinned.checked.prog.looks [] ∧ ∀ (j : Nat) t, fn.params[j]? = some t → Tryd.pinned.checked.prog.wantsStandIn t = false := by
  obtain rfl : f = 3 := Option.some.inj (cl1.symm.trans hf) |>.symm
  obtain rfl : fn = Tryd.f3 := (Option.some.inj (Tryd.func3.symm.trans hfn)).symm
  refine ⟨by kernel_rfl, fun j t ht => ?_⟩
  rw [Tryd.params3] at ht
  have hm := Array.mem_of_getElem? ht
  obtain rfl : t = 22 := by simpa using hm
  exact (show Tryd.prog.wantsStandIn 22 = false by kernel_rfl)

theorem card : Rows.FnLogsCardSaid :=
  Claim7.holds_tied_plain_at .later [] _ _ _ _ said (fun _ h => by cases h) (by kernel_rfl) (fun _ h => by cases h) fnLogs_row_tie rfl ⟨rfl, rfl⟩ (by kernel_rfl) rfl plain (by kernel_rfl)
#print axioms card
end Go.Proofs.YtoghambpbpgodaaDoor.fnLogs
namespace Go.Proofs.YtoghambpbpgodaaDoor

/-- The card, under a short name, for the claim. -/
theorem fnLogs_holds : Rows.FnLogsCardSaid := fnLogs.card
end Go.Proofs.YtoghambpbpgodaaDoor
