/- This text proves the given statement of the law FnExactIsValidLog: for every input the law returns true and its arguments read afterwards as before. Conditions: those of the given row and no other. -/
import Derived.Test.YtnjambhlblngcaaDoorCFnExactIsValidLog1
import Derived.Test.YtnjambhlblngcaaDoorRows
import Derived.Test.YtnjambhlblngcaaDoorCards
import Derived.Test.YtnjambhlblngcaaDoorTie
import Derived.WalkKit
import Derived.ProofKit
import Derived.OpenShut
import Derived.ShutString
import Derived.ChangeOld
import Derived.Below
import Derived.SizedLaws
import Derived.Deep.DeepHandedRow
import Derived.Lib.LaidTab
namespace Go.Proofs.YtnjambhlblngcaaDoor.P
open Go.RowKit Go.Proofs.YtnjambhlblngcaaDoorW.PrintWords Go.Proofs.YtnjambhlblngcaaDoorW.PrintLast Go.Proofs.YtnjambhlblngcaaDoorW.PrintMore
set_option linter.unusedVariables false
set_option linter.unusedSimpArgs false

theorem take_drop_app {l : Bs} {i j : Nat} (h : i ≤ j) : l.drop i = (l.take j).drop i ++ l.drop j := by
  by_cases hj : j ≤ l.length
  · have e : l = l.take j ++ l.drop j := (List.take_append_drop j l).symm
    have : (l.take j ++ l.drop j).drop i = (l.take j).drop i ++ l.drop j := List.drop_append_of_le_length (by rw [List.length_take]; omega)
    rw [← e] at this
    exact this
  · rw [show l.drop j = [] from List.drop_eq_nil_of_le (by omega), List.append_nil, List.take_of_length_le (by omega)]

theorem l1Split_is {l : Bs} (b : UInt8) (hl : l.length ≤ 1000000000) : ∃ (p : List ByteArray) (q : ByteArray × List ByteArray), Ter (fun k => spec_l1Split.f k (bs l) (b.toNat : Int)) (bs (ahead b l) :: p) ∧ (b ∉ l → p = []) ∧ (b ∈ l → p = q.1 :: q.2) := by
  have key := down_ (Q := fun i => ∀ (out : List ByteArray) (a : Nat), a ≤ i → out.length ≤ i → b ∉ (l.take i).drop a → ∃ (p : List ByteArray) (q : ByteArray × List ByteArray), Ter (fun k => spec_l1Split.l0 k (bs l) (b.toNat : Int) out (a : Int) (i : Int)) (out ++ bs (ahead b (l.drop a)) :: p) ∧ (b ∉ l.drop i → p = []) ∧ (b ∈ l.drop i → p = q.1 :: q.2)) l.length
    (fun out a ha ho hb => ⟨[], (ByteArray.empty, []), Ter.succ (by
      simp only [spec_l1Split.l0]
      refine Ter.ifn (by rw [bs_size]; omega) (Ter.ifp (by omega) (Ter.ifp (by rw [bs_size]; omega) (Ter.ifp (by omega) ((Ter.ret _).eq ?_))))
      rw [bs_size, Int.toNat_natCast, bs_from]
      rw [List.take_length] at hb
      rw [ahead_none hb]), fun _ => rfl, fun h => by rw [List.drop_length] at h; cases h⟩)
    (fun i hi ih out a ha ho hb => by
      have hbt : bt (bs l) (i : Int) = (l[i].toNat : Int) := bs_bt hi
      by_cases h2 : l[i] = b
      · obtain ⟨p, q, h3, _, _⟩ := ih (out ++ [bs (ahead b (l.drop a))]) (i + 1) (Nat.le_refl _) (by simp; omega) (by rw [List.drop_eq_nil_of_le (by rw [List.length_take]; omega)]; simp)
        refine ⟨bs (ahead b (l.drop (i + 1))) :: p, (bs (ahead b (l.drop (i + 1))), p), Ter.succ ?_, fun h => absurd (by rw [drop_at hi, h2]; simp) h, fun _ => rfl⟩
        simp only [spec_l1Split.l0]
        refine Ter.ifp (by rw [bs_size]; omega) (Ter.ifp (by omega) (Ter.ifp (by rw [hbt, h2]) (Ter.ifp (by omega) (Ter.ifp (by omega) (Ter.ifp (by rw [bs_size]; omega) (Ter.ifp (by omega) ?_))))))
        rw [w64s hi (by omega), Int.toNat_natCast, Int.toNat_natCast, bs_cut]
        have e1 : ahead b (l.drop a) = (l.take i).drop a := by
          rw [take_drop_app ha, drop_at hi, h2]
          exact ahead_app _ hb
        rw [e1] at h3
        refine h3.eq ?_
        rw [e1]
        simp
      · obtain ⟨p, q, h3, h4, h5⟩ := ih out a (by omega) (by omega) (by
          have e : (l.take (i + 1)).drop a = (l.take i).drop a ++ [l[i]] := by
            rw [← take_one hi, List.drop_append_of_le_length (by rw [List.length_take]; omega)]
          rw [e, List.mem_append, List.mem_singleton]
          rintro (h | h)
          · exact hb h
          · exact h2 h.symm)
        refine ⟨p, q, Ter.succ ?_, fun h => h4 (fun h6 => h (by rw [drop_at hi]; exact List.mem_cons_of_mem _ h6)), fun h => h5 (by
          rw [drop_at hi] at h
          rcases List.mem_cons.1 h with h | h
          · exact absurd h.symm h2
          · exact h)⟩
        simp only [spec_l1Split.l0]
        refine Ter.ifp (by rw [bs_size]; omega) (Ter.ifp (by omega) (Ter.ifn (fun e => h2 (byte_eq (hbt.symm.trans e))) ?_))
        rw [w64s hi (by omega)]
        exact h3) 0 (by omega)
  obtain ⟨p, q, h1, h2, h3⟩ := key [] 0 (Nat.le_refl _) (Nat.le_refl _) (by simp)
  exact ⟨p, q, h1, h2, h3⟩

theorem rd_head (x : ByteArray) (p : List ByteArray) : rdOf ByteArray.empty (x :: p) 0 = x := rfl

theorem ahead_len (b : UInt8) (l : Bs) : (ahead b l).length ≤ l.length := (List.takeWhile_sublist _).length_le

theorem dec_is {l : Bs} (k : Nat) (hk : k ≤ 100) (hl : l.length ≤ 1000000) : ∃ x y : Bs, ∃ ok : Bool, Ter (fun n => spec_l12Decode.f n (bs l) (k : Int)) (bs x, bs y, ok) ∧ dec l (k : Int) = if ok = true then some (x, y) else none := by
  have hn := itoa_len (n := (k : Int)) (by omega) 2 (by omega)
  obtain ⟨p, q, hs, _, _⟩ := l1Split_is (l := l) 35 (by omega)
  have ht := ahead_len 35 l
  have hF0 : ∀ {r : ByteArray × ByteArray × Bool}, Ter (fun n => if ((ahead 35 l).length : Int) < ((Lib.itoa (k : Int) ++ [32]).length : Int) then spec_l12Decode.j0 n (bs l) (k : Int) (bs (Lib.itoa (k : Int) ++ [32])) (bs (ahead 35 l)) true else spec_l12Decode.j0 n (bs l) (k : Int) (bs (Lib.itoa (k : Int) ++ [32])) (bs (ahead 35 l)) ((ahead 35 l).take (Lib.itoa (k : Int) ++ [32]).length != Lib.itoa (k : Int) ++ [32])) r → Ter (fun n => spec_l12Decode.f n (bs l) (k : Int)) r := by
    intro r h
    unfold spec_l12Decode.f
    refine (l1Num_is k (by omega)).bind ?_
    simp only [lit1, bs_app, bs_size]
    refine Ter.ifp (by omega) (hs.bind ?_)
    refine Ter.ifp (by simp only [List.length_cons]; omega) ?_
    rw [rd_head, bs_size]
    by_cases hc : ((ahead 35 l).length : Int) < ((Lib.itoa (k : Int) ++ [32]).length : Int)
    · simp only [if_pos hc] at h ⊢
      exact h
    · simp only [if_neg hc] at h ⊢
      refine Ter.ifp (by omega) (Ter.ifp (by omega) ?_)
      rw [Int.toNat_natCast, bs_upto, bs_toList, bs_toList]
      exact h
  generalize hd_ : Lib.itoa (k : Int) ++ [32] = hd at hF0
  generalize ht_ : ahead 35 l = text at hF0 ht
  have hT : Ter (fun n => spec_l12Decode.j0 n (bs l) (k : Int) (bs hd) (bs text) true) (bs [], bs [], false) := Ter.succ (by simp only [spec_l12Decode.j0]; exact Ter.ifp trivial (Ter.ret _))
  unfold dec
  simp only [hd_, ht_]
  by_cases c1 : text.length < hd.length
  · simp only [if_pos (Int.ofNat_lt.2 c1)] at hF0
    exact ⟨[], [], false, hF0 hT, by rw [if_pos (.inl c1)]; rfl⟩
  · simp only [if_neg (fun e => c1 (Int.ofNat_lt.1 e))] at hF0
    have hF := @hF0
    clear hF0
    by_cases c2 : text.take hd.length = hd
    · have e2 : (text.take hd.length != hd) = false := by simpa using c2
      rw [e2] at hF
      rw [if_neg (by rintro (h | h); exact c1 h; exact h c2)]
      obtain ⟨p2, q2, hs2, _, _⟩ := l1Split_is (l := text.drop hd.length) 64 (by simp; omega)
      have ht2 := ahead_len 64 (text.drop hd.length)
      have h7 : (ahead 64 (text.drop hd.length)).length ≤ 1000000 := by
        rw [List.length_drop] at ht2
        omega
      have hJ : ∀ {r : ByteArray × ByteArray × Bool}, Ter (fun n => if (((ahead 64 (text.drop hd.length)).length : Nat) : Int) = ((text.drop hd.length).length : Int) then some (bs [], bs [], false) else ((spec_l12Record.f n (bs (ahead 64 (text.drop hd.length))) (bs ((text.drop hd.length).drop ((ahead 64 (text.drop hd.length)).length + 1)))).bind fun t188 => (if t188 = true then ((spec_l12Line.f n (k : Int) (bs (ahead 64 (text.drop hd.length))) (bs ((text.drop hd.length).drop ((ahead 64 (text.drop hd.length)).length + 1)))).bind fun t189 => some (bs (ahead 64 (text.drop hd.length)), bs ((text.drop hd.length).drop ((ahead 64 (text.drop hd.length)).length + 1)), t189.toList == l ++ [10])) else some (bs (ahead 64 (text.drop hd.length)), bs ((text.drop hd.length).drop ((ahead 64 (text.drop hd.length)).length + 1)), false)))) r → Ter (fun n => spec_l12Decode.j0 n (bs l) (k : Int) (bs hd) (bs text) false) r := by
        intro r h
        refine Ter.succ ?_
        simp only [spec_l12Decode.j0, bs_size, Int.toNat_natCast, bs_from]
        refine Ter.ifn (by decide) (Ter.ifp (by omega) (Ter.ifp (by omega) (hs2.bind ?_)))
        refine Ter.ifp (by simp only [List.length_cons]; omega) ?_
        rw [rd_head]
        simp only [bs_size]
        by_cases c3 : (((ahead 64 (text.drop hd.length)).length : Nat) : Int) = ((text.drop hd.length).length : Int)
        · simp only [if_pos c3] at h
          exact Ter.ifp c3 h
        · simp only [if_neg c3] at h
          refine Ter.ifn c3 ?_
          have e3 : wrap64 ((((ahead 64 (text.drop hd.length)).length : Nat) : Int) + 1) = (((ahead 64 (text.drop hd.length)).length + 1 : Nat) : Int) := by
            generalize (ahead 64 (text.drop hd.length)).length = m at h7
            rw [w64 (by omega) (by omega)]
            omega
          simp only [e3]
          refine Ter.ifp (by omega) (Ter.ifp (by omega) ?_)
          have e9 : l.length + 1 ≤ 9223372036854775807 := by omega
          simp only [Int.toNat_natCast, bs_from, lit1, bs_app, bs_toList, if_pos e9]
          exact h
      by_cases c3 : (ahead 64 (text.drop hd.length)).length = (text.drop hd.length).length
      · refine ⟨[], [], false, hF (hJ (Ter.ifp (by rw [c3]) (Ter.ret _))), ?_⟩
        rw [if_pos c3]
        rfl
      · rw [if_neg c3]
        generalize ha_ : ahead 64 (text.drop hd.length) = ask at hJ ht2 c3
        generalize hr_ : (text.drop hd.length).drop (ask.length + 1) = rep at hJ
        have h5 : ask.length ≤ 1000000 := by simp at ht2; omega
        have h6 : rep.length ≤ 1000000 := by rw [← hr_]; simp; omega
        by_cases c4 : okRec ask rep = true
        · refine ⟨ask, rep, lineB (k : Int) ask rep == l ++ [10], hF (hJ (Ter.ifn (by omega) ((l12Record_is (by omega) (by omega)).bind ?_))), ?_⟩
          · refine Ter.ifp c4 ((l12Line_is k (by omega) (by omega) (by omega)).bind ((Ter.ret _).eq ?_))
            rw [bs_toList]
          · by_cases c5 : lineB (k : Int) ask rep = l ++ [10]
            · rw [if_pos ⟨c4, c5⟩, if_pos (by simpa using c5)]
            · rw [if_neg (fun e => c5 e.2), if_neg (by simpa using c5)]
        · refine ⟨ask, rep, false, hF (hJ (Ter.ifn (by omega) ((l12Record_is (by omega) (by omega)).bind (Ter.ifn c4 (Ter.ret _))))), ?_⟩
          rw [if_neg (fun e => c4 e.1)]
          rfl
    · have e2 : (text.take hd.length != hd) = true := by simpa using c2
      rw [e2] at hF
      exact ⟨[], [], false, hF hT, by rw [if_pos (.inr c2)]; rfl⟩

def toRec (p : Bs × Bs) : S27 := ⟨bs p.1, bs p.2⟩

theorem one_len {k : Int} (hk : 0 ≤ k) {t : Bs} {c r : Bs} (h : one k t = some (c, r)) : t.length ≥ (lineB k c r).length := (one_starts h).2.length_le

theorem line_ahead {k : Int} (hk : 0 ≤ k) {t c r : Bs} (h : one k t = some (c, r)) : (10 : UInt8) ∈ t ∧ (ahead 10 t).length + 1 = (lineB k c r).length := by
  obtain ⟨ho, q, rfl⟩ := one_starts h
  have hr := okRec_ok ho
  unfold lineB
  refine ⟨by simp, ?_⟩
  rw [List.append_assoc, show [10] ++ q = 10 :: q from rfl, ahead_app q (seal_nl (body_nl hk hr))]
  simp

theorem l12Open_is {l : Bs} (hl : l.length ≤ 1000000) : Ter (fun n => spec_l12Open.f n (bs l)) ((recs 60 0 l).map toRec, (lenR 0 (recs 60 0 l) : Int)) := by
  have key : ∀ (n : Nat) (out : List S27) (a : Nat), out.length + n = 60 → a ≤ l.length → Ter (fun k => spec_l12Open.l0 k (bs l) out (a : Int)) (out ++ (recs n (out.length : Int) (l.drop a)).map toRec, ((a + lenR (out.length : Int) (recs n (out.length : Int) (l.drop a)) : Nat) : Int)) := by
    have hj : ∀ (out : List S27) (a : Nat), Ter (fun k => spec_l12Open.j1 k (bs l) out (a : Int) false) (out, (a : Int)) := fun out a => Ter.succ (by simp only [spec_l12Open.j1]; exact Ter.ifn (by decide) (Ter.ret _))
    intro n
    induction n with
    | zero =>
      intro out a h1 h2
      refine Ter.succ ?_
      simp only [spec_l12Open.l0, recs, List.map_nil, List.append_nil, lenR, Nat.add_zero]
      rw [show decide ((out.length : Int) < 60) = false by simp; omega]
      exact Ter.if_eq (fun _ => hj out a) (fun _ => hj out a)
    | succ n ih =>
      intro out a h1 h2
      refine Ter.succ ?_
      simp only [spec_l12Open.l0, bs_size]
      by_cases h3 : a < l.length
      · refine Ter.ifp (by omega) ?_
        rw [show decide ((out.length : Int) < 60) = true by simp; omega]
        refine Ter.succ ?_
        simp only [spec_l12Open.j1, bs_size, Int.toNat_natCast, bs_from]
        refine Ter.ifp trivial (Ter.ifp (by omega) (Ter.ifp (by omega) ?_))
        obtain ⟨p, q, hs, hp1, hp2⟩ := l1Split_is (l := l.drop a) 10 (by simp; omega)
        refine hs.bind (Ter.ifp (by simp only [List.length_cons]; omega) ?_)
        rw [rd_head]
        have hal := ahead_len 10 (l.drop a)
        obtain ⟨x, y, ok, hd, hd2⟩ := dec_is (l := ahead 10 (l.drop a)) out.length (by omega) (by simp at hal; omega)
        refine hd.bind ?_
        have e1 := one'_eq (k := (out.length : Int)) (by omega) (by omega) (l.drop a)
        unfold one' at e1
        by_cases h4 : (10 : UInt8) ∈ l.drop a
        · rw [if_pos h4, hd2] at e1
          rw [hp2 h4]
          refine Ter.ifn (by simp only [List.length_cons]; omega) ?_
          cases ok with
          | false =>
            rw [if_neg (by decide)] at e1
            refine Ter.ifn (by simp) ((Ter.ret _).eq ?_)
            simp only [recs, ← e1, List.map_nil, List.append_nil, lenR, Nat.add_zero]
          | true =>
            rw [if_pos rfl] at e1
            refine Ter.ifp rfl (Ter.ifp (by omega) ?_)
            have e2 := (line_ahead (k := (out.length : Int)) (by omega) e1.symm).2
            have e3 := one_len (k := (out.length : Int)) (by omega) e1.symm
            simp only [List.length_drop] at e3
            have e4 : wrap64 (wrap64 ((a : Int) + ((bs (ahead 10 (l.drop a))).size : Int)) + 1) = ((a + (lineB (out.length : Int) x y).length : Nat) : Int) := by
              rw [bs_size, w64 (n := (a : Int) + _) (by omega) (by omega), w64 (by omega) (by omega)]
              omega
            rw [e4]
            refine (ih (out ++ [(⟨bs x, bs y⟩ : S27)]) (a + (lineB (out.length : Int) x y).length) (by simp; omega) (by omega)).eq ?_
            have e5 : ((out ++ [(⟨bs x, bs y⟩ : S27)]).length : Int) = (out.length : Int) + 1 := by simp
            rw [e5]
            simp only [recs, ← e1, List.map_cons, lenR, List.drop_drop]
            rw [List.append_assoc, Nat.add_assoc]
            rfl
        · rw [if_neg h4] at e1
          rw [hp1 h4]
          refine Ter.ifp (by simp) ((Ter.ret _).eq ?_)
          simp only [recs, ← e1, List.map_nil, List.append_nil, lenR, Nat.add_zero]
      · refine Ter.ifn (by omega) ((hj out a).eq ?_)
        have e0 : l.drop a = [] := List.drop_eq_nil_of_le (by omega)
        simp only [recs, e0, one_nil (k := (out.length : Int)) (by omega), List.map_nil, List.append_nil, lenR, Nat.add_zero]
  unfold spec_l12Open.f
  have := key 60 [] 0 rfl (by omega)
  simpa using this

/-- The program's ends, as the printed function keeps them: behind the first one. -/
def endsI (a : Nat) (k : Int) (l : List (Bs × Bs)) : List Int := (endsR a k l).map fun (n : Nat) => (n : Int)

theorem endsI_cons (a : Nat) (k : Int) (e : Bs × Bs) (l : List (Bs × Bs)) : endsI a k (e :: l) = (a : Int) :: endsI (a + (lineB k e.1 e.2).length) (k + 1) l := rfl

theorem encB_eq {k : Int} (h0 : 0 ≤ k) (h1 : k ≤ 59) {c r : Bs} : encB k c r = if okRec c r = true then (bs (lineB k c r), true) else (bs [], false) := by
  unfold encB
  by_cases h : okRec c r = true
  · rw [if_pos ⟨⟨h0, h1⟩, h⟩, if_pos h]
  · rw [if_neg (fun e => h e.2), if_neg h]

theorem verB_len (l : Bs) : (verB l).length ≤ l.length := by
  have := (cut_len l 35).1
  unfold verB
  split
  · exact this
  · simp

set_option maxHeartbeats 1000000 in
theorem readRecords_is {l : Bs} (hl : l.length ≤ 1000000) : Ter (fun n => impl_readRecords.f n (bs l)) ((recs 60 0 l).map toRec, endsI 0 0 (recs 60 0 l)) := by
  have key : ∀ (n : Nat) (out : List S27) (en : List Int) (a : Nat), out.length + n = 60 → en.length + n ≤ 61 → a ≤ l.length → Ter (fun k => impl_readRecords.l0 k (bs l) out (en ++ [(a : Int)]) (a : Int)) (out ++ (recs n (out.length : Int) (l.drop a)).map toRec, en ++ endsI a (out.length : Int) (recs n (out.length : Int) (l.drop a))) := by
    intro n
    induction n with
    | zero =>
      intro out en a h1 h3 h4
      refine Ter.succ ?_
      simp only [impl_readRecords.l0, recs, List.map_nil, List.append_nil]
      exact Ter.ifn (by omega) (Ter.ret _)
    | succ n ih =>
      intro out en a h1 h3 h4
      refine Ter.succ ?_
      simp only [impl_readRecords.l0, bs_size, Int.toNat_natCast, bs_from]
      refine Ter.ifp (by omega) (Ter.ifp (by omega) (Ter.ifp (by omega) ?_))
      have hstop : one (out.length : Int) (l.drop a) = none → Ter (fun _ : Nat => some (out, en ++ [(a : Int)])) (out ++ (recs (n + 1) (out.length : Int) (l.drop a)).map toRec, en ++ endsI a (out.length : Int) (recs (n + 1) (out.length : Int) (l.drop a))) := by
        intro h
        refine (Ter.ret _).eq ?_
        simp only [recs, h, List.map_nil, List.append_nil]
        rfl
      have hd1 : (l.drop a).length ≤ 1000000 := by simp; omega
      generalize ht_ : l.drop a = t at hstop hd1 ⊢
      have hc1 := cut_len t 10
      rw [Cut_is t 10 (by omega)]
      simp only [Option.bind_some]
      by_cases hw : (Lib.cut t [10]).2.2 = true
      · refine Ter.ifp hw ?_
        obtain ⟨vb, hv⟩ := Verify_is (l := (Lib.cut t [10]).1) (by omega)
        refine hv.bind ?_
        have hvl := verB_len (Lib.cut t [10]).1
        have hc2 := cut_len (verB (Lib.cut t [10]).1) 32
        have hc3 := cut_len (Lib.cut (verB (Lib.cut t [10]).1) [32]).2.1 64
        simp only [Cut_is (verB (Lib.cut t [10]).1) 32 (by omega), Option.bind_some, Cut_is (Lib.cut (verB (Lib.cut t [10]).1) [32]).2.1 64 (by omega)]
        have hone : one (out.length : Int) t = if okRec (Lib.cut (Lib.cut (verB (Lib.cut t [10]).1) [32]).2.1 [64]).1 (Lib.cut (Lib.cut (verB (Lib.cut t [10]).1) [32]).2.1 [64]).2.1 = true ∧ lineB (out.length : Int) (Lib.cut (Lib.cut (verB (Lib.cut t [10]).1) [32]).2.1 [64]).1 (Lib.cut (Lib.cut (verB (Lib.cut t [10]).1) [32]).2.1 [64]).2.1 = (Lib.cut t [10]).1 ++ [10] then some ((Lib.cut (Lib.cut (verB (Lib.cut t [10]).1) [32]).2.1 [64]).1, (Lib.cut (Lib.cut (verB (Lib.cut t [10]).1) [32]).2.1 [64]).2.1) else none := by
          unfold one
          simp only [hw, if_true]
        have hcl : (Lib.cut (Lib.cut (verB (Lib.cut t [10]).1) [32]).2.1 [64]).1.length ≤ 1000000 := by omega
        have hrl : (Lib.cut (Lib.cut (verB (Lib.cut t [10]).1) [32]).2.1 [64]).2.1.length ≤ 1000000 := by omega
        clear hc3
        generalize (Lib.cut (Lib.cut (verB (Lib.cut t [10]).1) [32]).2.1 [64]).1 = c at hone hcl ⊢
        generalize (Lib.cut (Lib.cut (verB (Lib.cut t [10]).1) [32]).2.1 [64]).2.1 = r at hone hrl ⊢
        have hll : (Lib.cut t [10]).1.length ≤ 1000000 := by omega
        clear hc1 hc2 hvl hv
        generalize (Lib.cut t [10]).1 = line at hone hll ⊢
        refine (implEncode_is (out.length : Int) (by omega) (by omega)).bind ?_
        rw [encB_eq (by omega) (by omega)]
        by_cases h5 : okRec c r = true
        · rw [if_pos h5]
          simp only [lit1, bs_app, bs_size, bs_toList]
          refine Ter.ifp trivial (Ter.ifp (by omega) ?_)
          by_cases h6 : lineB (out.length : Int) c r = line ++ [10]
          · rw [if_pos ⟨h5, h6⟩] at hone
            refine Ter.ifp h6 (Ter.ifp (by omega) (Ter.ifp (by rw [List.length_append, List.length_singleton]; omega) ?_))
            have e2 := congrArg List.length h6
            simp only [List.length_append, List.length_cons, List.length_nil] at e2
            have e3 := one_len (k := (out.length : Int)) (by omega) hone
            have e3' : t.length = l.length - a := by rw [← ht_]; simp
            have e4 : wrap64 ((a : Int) + wrap64 ((line.length : Int) + 1)) = ((a + (lineB (out.length : Int) c r).length : Nat) : Int) := by
              generalize (lineB (out.length : Int) c r).length = q at e2 e3
              rw [w64 (n := (line.length : Int) + 1) (by omega) (by omega), w64 (by omega) (by omega)]
              omega
            have e6 : a + (lineB (out.length : Int) c r).length ≤ l.length := by
              generalize (lineB (out.length : Int) c r).length = q at e2 e3 ⊢
              clear e4
              omega
            rw [e4]
            refine (ih (out ++ [(⟨bs c, bs r⟩ : S27)]) (en ++ [(a : Int)]) (a + (lineB (out.length : Int) c r).length) (by rw [List.length_append, List.length_singleton]; omega) (by rw [List.length_append, List.length_singleton]; omega) e6).eq ?_
            have e5 : ((out ++ [(⟨bs c, bs r⟩ : S27)]).length : Int) = (out.length : Int) + 1 := by simp
            rw [e5]
            simp only [recs, hone, List.map_cons, endsI_cons]
            rw [← List.drop_drop, ht_, List.append_assoc, List.append_assoc]
            rfl
          · rw [if_neg (fun e => h6 e.2)] at hone
            exact Ter.ifn h6 (hstop hone)
        · rw [if_neg (fun e => h5 e.1)] at hone
          rw [if_neg h5]
          exact Ter.ifn (by decide) (hstop hone)
      · have hone : one (out.length : Int) t = none := by unfold one; rw [if_neg hw]
        exact Ter.ifn hw (hstop hone)
  unfold impl_readRecords.f
  have := key 60 [] [] 0 rfl (by simp) (by omega)
  simpa using this
end Go.Proofs.YtnjambhlblngcaaDoor.P
namespace Go.Proofs.YtnjambhlblngcaaDoor.P
open Go.RowKit Go.Proofs.YtnjambhlblngcaaDoorW.PrintWords Go.Proofs.YtnjambhlblngcaaDoorW.PrintLast Go.Proofs.YtnjambhlblngcaaDoorW.PrintMore
set_option linter.unusedVariables false
set_option linter.unusedSimpArgs false

theorem index_is (x : Int) (l : List Int) (hl : l.length ≤ 1000) : ∃ r : Int, Ter (fun k => slices_Index_int_int.f k l x) r ∧ (0 ≤ r ↔ x ∈ l) := by
  have key := down_ (Q := fun i => ∃ r : Int, Ter (fun k => slices_Index_int_int.l0 k l x (l.length : Int) (i : Int)) r ∧ (0 ≤ r ↔ x ∈ l.drop i)) l.length
    ⟨-1, Ter.succ (by simp only [slices_Index_int_int.l0]; exact Ter.ifn (by omega) (Ter.ret _)), by rw [List.drop_length]; simp⟩
    (fun i hi ih => by
      have hd : l.drop i = l[i] :: l.drop (i + 1) := List.drop_eq_getElem_cons hi
      by_cases h : x = l[i]
      · refine ⟨(i : Int), Ter.succ ?_, ⟨fun _ => by rw [hd, ← h]; exact List.mem_cons_self .., fun _ => by omega⟩⟩
        simp only [slices_Index_int_int.l0]
        exact Ter.ifp (by omega) (Ter.ifp (by omega) (Ter.ifp (by omega) (Ter.ifp (by rw [rd_at hi]; exact h) (Ter.ret _))))
      · obtain ⟨r, h1, h2⟩ := ih
        refine ⟨r, Ter.succ ?_, by rw [hd, List.mem_cons]; constructor; (· intro e; exact .inr (h2.1 e)); (· rintro (e | e); exact absurd e h; exact h2.2 e)⟩
        simp only [slices_Index_int_int.l0]
        refine Ter.ifp (by omega) (Ter.ifp (by omega) (Ter.ifp (by omega) (Ter.ifn (by rw [rd_at hi]; exact h) ?_)))
        rw [w64s hi (by omega)]
        exact h1) 0 (by omega)
  obtain ⟨r, h1, h2⟩ := key
  exact ⟨r, h1, by simpa using h2⟩

theorem contains_is (x : Int) (l : List Int) (hl : l.length ≤ 1000) : Ter (fun k => slices_Contains_int_int.f k l x) (decide (x ∈ l)) := by
  obtain ⟨r, h1, h2⟩ := index_is x l hl
  unfold slices_Contains_int_int.f
  refine h1.bind ((Ter.ret _).eq ?_)
  rw [decide_eq_decide]
  exact h2

/-- A log is valid. -/
def validB (D P : Bs) (n : Int) : Bool := decide (D.length + P.length ≤ 30000) && (decide (lenR 0 (recs 60 0 (D ++ P)) = D.length + P.length) && (decide (lenR 0 (recs 60 0 D) = D.length) && decide (((recs 60 0 (D ++ P)).length : Int) = n)))

theorem Ter.some_ {α : Type} {a b : α} (h : a = b) : Ter (fun _ => some a) b := (Ter.ret _).eq h

theorem specValid_is {D P : Bs} (n : Int) (hD : D.length ≤ 1048576) (hP : P.length ≤ 1048576) : Ter (fun k => spec_l12Valid.f k (bs D) (bs P) n) (validB D P n) := by
  unfold spec_l12Valid.f validB
  simp only [bs_size, bs_app, w64 (n := (D.length : Int) + (P.length : Int)) (by omega) (by omega)]
  by_cases h1 : D.length + P.length ≤ 30000
  · refine Ter.ifn (by omega) (Ter.ifp (by omega) ?_)
    refine (l12Open_is (l := D ++ P) (by rw [List.length_append]; omega)).bind ((l12Open_is (l := D) (by omega)).bind ?_)
    simp only [h1, decide_true, Bool.true_and]
    by_cases h2 : lenR 0 (recs 60 0 (D ++ P)) = D.length + P.length
    · refine Ter.ifp (by rw [h2]; omega) ?_
      by_cases h3 : lenR 0 (recs 60 0 D) = D.length
      · refine Ter.ifp (by rw [h3]) (Ter.some_ ?_)
        simp only [h2, h3, decide_true, Bool.true_and, List.length_map]
        by_cases h4 : ((recs 60 0 (D ++ P)).length : Int) = n <;> simp [h4]
      · exact Ter.ifn (by omega) (Ter.some_ (by simp [h3]))
    · exact Ter.ifn (by omega) (Ter.some_ (by simp [h2]))
  · exact Ter.ifp (by omega) (Ter.some_ (by simp [h1]))

theorem endsI_len (l : List (Bs × Bs)) : (endsI 0 0 l).length = l.length + 1 := by unfold endsI; rw [List.length_map, endsR_len]

theorem endsI_last (l : List (Bs × Bs)) : rd (endsI 0 0 l) (l.length : Int) = (lenR 0 l : Int) := by
  unfold rd endsI
  rw [List.getD_eq_getElem?_getD, List.getElem?_map, Int.toNat_natCast, endsR_last]
  simp

theorem endsI_mem (l : List (Bs × Bs)) (n : Nat) : (n : Int) ∈ endsI 0 0 l ↔ n ∈ endsR 0 0 l := by
  unfold endsI
  rw [List.mem_map]
  constructor
  · rintro ⟨m, hm, e⟩
    obtain rfl : m = n := by omega
    exact hm
  · intro h
    exact ⟨n, h, rfl⟩

theorem implValid_is {D P : Bs} (n : Int) (hD : D.length ≤ 1048576) (hP : P.length ≤ 1048576) : Ter (fun k => impl_IsValidLog.f k (bs D) (bs P) n) (validB D P n) := by
  unfold impl_IsValidLog.f validB
  simp only [bs_size, bs_app, w64 (n := (D.length : Int) + (P.length : Int)) (by omega) (by omega)]
  by_cases h1 : D.length + P.length ≤ 30000
  · refine Ter.ifn (by omega) (Ter.ifp (by omega) ?_)
    refine (readRecords_is (l := D ++ P) (by rw [List.length_append]; omega)).bind ?_
    simp only [h1, decide_true, Bool.true_and, List.length_map, endsI_len, endsI_last]
    have hm := endsI_mem (recs 60 0 (D ++ P)) D.length
    have he := ends_iff 60 0 0 D P (by omega) (by omega)
    rw [Nat.zero_add] at he
    have hl := recs_len 60 0 (D ++ P)
    refine Ter.ifp (by omega) (Ter.ifp (by omega) ?_)
    by_cases h2 : lenR 0 (recs 60 0 (D ++ P)) = D.length + P.length
    · refine Ter.ifp (by rw [h2]; omega) ?_
      by_cases h4 : ((recs 60 0 (D ++ P)).length : Int) = n
      · refine Ter.ifp h4.symm ((contains_is _ _ (by rw [endsI_len]; omega)).bind (Ter.some_ ?_))
        simp only [h2, h4, decide_true, Bool.true_and, Bool.and_true, decide_eq_decide]
        exact hm.trans he
      · exact Ter.ifn (fun e => h4 e.symm) (Ter.some_ (by simp [h4]))
    · exact Ter.ifn (by omega) (Ter.some_ (by simp [h2]))
  · exact Ter.ifp (by omega) (Ter.some_ (by simp [h1]))

theorem szLog_is {c r : Bs} {a n : Int} (h0 : 0 ≤ a) (h1 : a ≤ 1048576) (hc : c.length ≤ maxLen) (hr : r.length ≤ maxLen) : ∃ t, laws_szLog.f (bs c) (bs r) n a = some t ∧ (t < 0 ∨ (0 ≤ t ∧ t ≤ a ∧ c.length ≤ 1048576 ∧ r.length ≤ 1048576)) := by
  rw [maxLen_] at hc hr
  unfold laws_szLog.f
  rw [bs_size, bs_size, w64 (n := a - (c.length : Int)) (by omega) (by omega)]
  by_cases h : a - (c.length : Int) < 0
  · rw [if_pos h]; exact ⟨_, rfl, .inl (by omega)⟩
  · rw [if_neg h, w64 (by omega) (by omega)]
    by_cases h2 : a - (c.length : Int) - (r.length : Int) < 0
    · rw [if_pos h2]; exact ⟨_, rfl, .inl (by omega)⟩
    · rw [if_neg h2]; exact ⟨_, rfl, .inr (by omega)⟩
end Go.Proofs.YtnjambhlblngcaaDoor.P
namespace Go.Proofs.YtnjambhlblngcaaDoor.P
open Go.RowKit Go.Proofs.YtnjambhlblngcaaDoorW.PrintWords Go.Proofs.YtnjambhlblngcaaDoorW.PrintLast Go.Proofs.YtnjambhlblngcaaDoorW.PrintMore
set_option linter.unusedVariables false
set_option linter.unusedSimpArgs false

theorem toLog_is (a b : ByteArray) (n : Int) : laws_toLog.f a b n = some (a, b, n) := rfl

theorem FnExactIsValidLog.pure (a0_0 : ByteArray) (a0_1 : ByteArray) (a0_2 : Int) (W1 : a0_0.size ≤ maxLen) (W2 : a0_1.size ≤ maxLen) (W3 : (Lit.int .i64 a0_2).wf = true) : ∃ k, laws_FnExactIsValidLog.f k a0_0 a0_1 a0_2 = some true := by
  obtain ⟨D, rfl⟩ : ∃ l, a0_0 = bs l := ⟨_, bs_of _⟩
  obtain ⟨P, rfl⟩ : ∃ l, a0_1 = bs l := ⟨_, bs_of _⟩
  rw [bs_size] at W1 W2
  have key : Ter (fun k => laws_FnExactIsValidLog.f k (bs D) (bs P) a0_2) true := by
    obtain ⟨t, ht, h⟩ := szLog_is (c := D) (r := P) (a := 1048576) (n := a0_2) (by omega) (by omega) W1 W2
    unfold laws_FnExactIsValidLog.f
    simp only [ht, Option.bind_some]
    rcases h with h | ⟨h1, h2, h3, h4⟩
    · exact Ter.ifp h (Ter.ret _)
    · refine Ter.ifn (by omega) ?_
      have hs := specValid_is a0_2 h3 h4
      have hi := implValid_is a0_2 h3 h4
      generalize validB D P a0_2 = b at hs hi
      have hs' : Ter (fun k => spec_IsValidLog.f k (bs D) (bs P) a0_2) b := hs.bind (Ter.ret _)
      exact Ter.bind (Ter.const (toLog_is _ _ _)) (Ter.bind hs' (Ter.bind (Ter.const (toLog_is _ _ _)) (Ter.bind hi (Ter.ifn (by simp) (Ter.ret _)))))
  obtain ⟨K, h⟩ := key
  exact ⟨K, h K (Nat.le_refl _)⟩
end Go.Proofs.YtnjambhlblngcaaDoor.P
namespace Go.Proofs.YtnjambhlblngcaaDoor.fnExactIsValidLog
open Go.ChangeShapes Go.WideShapes Go.ChangeAt Go.RowKit
open Go.ChangeMaps (open_string shut_string)
open Go.Proofs.YtnjambhlblngcaaDoor.P Go.Proofs.YtnjambhlblngcaaDoor.laidRow Go.Proofs.YtnjambhlblngcaaDoorW.PrintWords Go.Proofs.YtnjambhlblngcaaDoorW.PrintLast Go.Proofs.YtnjambhlblngcaaDoorW.PrintMore
set_option linter.unusedVariables false

theorem call (a0_0 : ByteArray) (a0_1 : ByteArray) (a0_2 : Int) (w : World) (ht : TabOK w) (W_0 : a0_0.size ≤ maxLen) (W_1 : a0_1.size ≤ maxLen) (W_2 : (Lit.int .i64 a0_2).wf = true) :
    Calls Tryd.prog 5 #[.agg #[.string a0_0, .string a0_1, .int .i64 a0_2]] w fun e w' => e = .returned (.bool true) ∧ Below w.heap.size w w' := by
  obtain ⟨k, hk⟩ := P.FnExactIsValidLog.pure a0_0 a0_1 a0_2 W_0 W_1 W_2
  exact P.laws_FnExactIsValidLog.calls k a0_0 a0_1 a0_2 true w ht hk

set_option maxRecDepth 100000 in
theorem contract (H : Type) (enc : TypeId × Value → H) (W : World) (base : Nat) (args : Array Value) (ds gs : List (DataW H)) (before : List MemPlace)
    (hval : ∀ (j : Nat) t v, Tryd.f5.params[j]? = some t → args[j]? = some v → Value.okWide Tryd.prog W .any base t v)
    (hW : DataW.Whole enc Tryd.prog Tryd.f5.params.toList Rows.fnExactIsValidLogSpec.vars false W args.toList ds gs before) (hL : laidMetH Tryd.prog Rows.fnExactIsValidLogRow.laid W) (hsh : W.ShapedOpen Tryd.prog) :
    Calls Tryd.prog 5 args W fun e W' => ∃ v, e = .returned v ∧ Rows.fnExactIsValidLogSpec.post enc Tryd.prog Tryd.f5 false true false false W args v W' := by
  have hW' := hW
  obtain ⟨p, q, hA0, hV, rfl, hfz, hnd⟩ := hW
  have hA : DataW.TrodAll enc Tryd.prog W 0 (fun _ => true) true Tryd.f5.params.toList args.toList ds p := hA0
  rw [Tryd.params5] at hA hval
  obtain ⟨v0, vs0, d0, ds0, p0, q0, hargs, rfl, rfl, h0, r0⟩ := trodAll_cons hA
  obtain ⟨rfl, rfl, rfl⟩ := trodAll_nil r0
  obtain rfl : args = #[v0] := by cases args; simp_all
  obtain ⟨rfl, rfl⟩ := trodVars_none hV
  obtain ⟨cs0, rfl, _⟩ := okWide_struct Tryd.underlying36 (hval 0 36 v0 rfl rfl)
  have k0 := h0
  have lt0 : ∀ x ∈ p0, x.block < W.heap.size := by obtain ⟨m, hm⟩ := k0; exact DataW.trod_lt m _ _ _ hm
  obtain ⟨a0_0, a0_1, a0_2, e0, W0_0, W0_1, W0_2, _⟩ : ∃ (a0_0 : ByteArray) (a0_1 : ByteArray) (a0_2 : Int), cs0 = #[.string a0_0, .string a0_1, .int .i64 a0_2] ∧ a0_0.size ≤ maxLen ∧ a0_1.size ≤ maxLen ∧ (Lit.int .i64 a0_2).wf = true ∧ True := by
    obtain ⟨fuel, hf⟩ := h0
    obtain ⟨a0_0, a0_1, a0_2, e_, r_⟩ := P.cells_36 hf
    refine ⟨a0_0, a0_1, a0_2, ?_, r_⟩
    exact Array.toList_inj.1 e_
  subst e0
  clear hA0 hval
  refine (call a0_0 a0_1 a0_2 W  (tabOK hL hsh) W0_0 W0_1 W0_2).mono fun e W' ⟨he, bel⟩ => ?_
  subst he
  exact ⟨_, rfl, _, _, _, [], _, [], hW', trodAll_mk1 (shut_bool Tryd.underlying4 _), (trodAll_cons_mk (Below.trod laidOut (by kernel_rfl) (of_decide_eq_true (by kernel_rfl)) k0 bel lt0) trodAll_mk0), rfl, bel.frame _, fun h => by cases h⟩

set_option maxRecDepth 100000 in
theorem laid_met (os : Os) : laidMet Tryd.prog Rows.fnExactIsValidLogRow.laid ((laidWorld os).forCall (fun _ _ => 0) ⟨#[], #[.agg #[.string ByteArray.empty, .string ByteArray.empty, .int .i64 0]], []⟩).memory :=
  laidMet_of_run' 8 (by kernel_rfl) (by kernel_rfl)

set_option maxRecDepth 100000 in
theorem reads (os : Os) {H : Type} (enc : TypeId × Value → H) : ∃ places, DataW.whole enc Tryd.prog ((laidWorld os).forCall (fun _ _ => 0) ⟨#[], #[.agg #[.string ByteArray.empty, .string ByteArray.empty, .int .i64 0]], []⟩).memory Tryd.f5.params.toList Rows.fnExactIsValidLogSpec.vars false (#[.agg #[.string ByteArray.empty, .string ByteArray.empty, .int .i64 0]] : Array Value).toList 8 = some ([.agg [.lit (.string []), .lit (.string []), .lit (.int .i64 0)]], [], places) :=
  ⟨[], by kernel_rfl⟩

set_option maxRecDepth 100000 in
set_option maxHeartbeats 2000000 in
theorem lifted (os : Os) (started : os.Started) (H : Type) (enc : TypeId × Value → H) (F : Stop.Interp) :
    ReturnsInHanded {} Tryd.checked os 5 .any ((OpenSpec.ofChange Rows.fnExactIsValidLogSpec).preRow enc Tryd.prog Tryd.f5 Rows.fnExactIsValidLogRow.domain false Rows.fnExactIsValidLogRow.laid) (((OpenSpec.ofChange Rows.fnExactIsValidLogSpec).at F).post enc Tryd.prog Tryd.f5 false true false false) := by
  obtain ⟨places, hx⟩ := reads os enc
  refine returnsInHanded_of_row (C := Tryd.checked) (s := OpenSpec.ofChange Rows.fnExactIsValidLogSpec) own started (by kernel_rfl) Tryd.func5
    (witness_row_at (enc := enc) (C := Tryd.checked) false (laidWorld os) #[.agg #[.string ByteArray.empty, .string ByteArray.empty, .int .i64 0]] rfl (by kernel_rfl) (by kernel_rfl) (by kernel_rfl)
      (OpenSpec.preRow_of_cond 8 hx (by kernel_rfl) (fun k hk => by cases hk) (by kernel_rfl) (laid_met os))) ?_
  intro W base args ds gs before hval hW _ _ _ hL hsh _
  exact contract H enc W base args ds gs before hval hW hL hsh

set_option maxRecDepth 100000 in
theorem cl1 : Tryd.pinned.checked.prog.funcNamed Rows.fnExactIsValidLogRow.func = some 5 := by kernel_rfl

theorem cl2 : joinedFacts Tryd.pinned.checked.prog 5 Tryd.f5 Rows.fnExactIsValidLogSpec Rows.fnExactIsValidLogRow = true := by kernel_rfl

theorem cl3 : Tryd.f5.isInstance Tryd.pinned.checked.prog Rows.fnExactIsValidLogRow.origin Rows.fnExactIsValidLogRow.targs := of_decide_eq_true (by kernel_rfl)

theorem cl4 : Tryd.f5.isWrapper Tryd.pinned.checked.prog Rows.fnExactIsValidLogRow.wrapper Rows.fnExactIsValidLogRow.mainSum := (by unfold Func.isWrapper; first | (rw [if_pos (by decide +kernel)]; kernel_rfl) | (rw [if_neg (by decide +kernel)]; exact ⟨rfl, rfl⟩))

theorem said : Rows.FnExactIsValidLogSaid :=
  OpenClaim.holds_of_cond 5 Tryd.f5 rfl rfl rfl rfl rfl rfl rfl ⟨rfl, rfl, rfl, rfl, rfl⟩ rfl rfl rfl rfl rfl cl1 Tryd.func5 cl2 cl3 cl4
    (fun os started H enc _ F => by rw [OpenClaim.pre_eq_preRow]; exact lifted os started H enc F)

theorem plain (f : FuncId) (fn : Func) (hf : Tryd.pinned.checked.prog.funcNamed Rows.fnExactIsValidLogRow.func = some f) (hfn : Tryd.pinned.checked.prog.funcs[f]? = some fn) :
    false = Tryd.pinned.checked.prog.looks [] ∧ ∀ (j : Nat) t, fn.params[j]? = some t → Tryd.pinned.checked.prog.wantsStandIn t = false := by
  obtain rfl : f = 5 := Option.some.inj (cl1.symm.trans hf) |>.symm
  obtain rfl : fn = Tryd.f5 := (Option.some.inj (Tryd.func5.symm.trans hfn)).symm
  refine ⟨by kernel_rfl, fun j t ht => ?_⟩
  rw [Tryd.params5] at ht
  have hm := Array.mem_of_getElem? ht
  obtain rfl : t = 36 := by simpa using hm
  exact (show Tryd.prog.wantsStandIn 36 = false by kernel_rfl)

theorem card : Rows.FnExactIsValidLogCardSaid :=
  Claim7.holds_tied_plain_at .later [] _ _ _ _ said (fun _ h => by cases h) (by kernel_rfl) (fun _ h => by cases h) fnExactIsValidLog_row_tie rfl ⟨rfl, rfl⟩ (by kernel_rfl) rfl plain (by kernel_rfl)
#print axioms card
end Go.Proofs.YtnjambhlblngcaaDoor.fnExactIsValidLog
namespace Go.Proofs.YtnjambhlblngcaaDoor

/-- The card, under a short name, for the claim. -/
theorem fnExactIsValidLog_holds : Rows.FnExactIsValidLogCardSaid := fnExactIsValidLog.card
end Go.Proofs.YtnjambhlblngcaaDoor
