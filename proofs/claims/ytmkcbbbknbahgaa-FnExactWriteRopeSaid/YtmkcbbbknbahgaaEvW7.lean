/- FnExactWriteRope returns true for every argument, and its arguments read as they did. No conditions. -/
import Derived.Below
import Derived.ChangeArms
import Derived.ChangeOld
import Derived.DataReads
import Derived.KernelRfl
import Derived.Laws.AppendOwn
import Derived.Laws.CopyRow
import Derived.Laws.Entries
import Derived.Laws.IdiomCopy
import Derived.Laws.MakeOwn
import Derived.Laws.OwnMore
import Derived.OpenShut
import Derived.Orders
import Derived.ProofKit
import Derived.ShutString
import Derived.SizedLaws
import Derived.Test.YtmkcbbbknbahgaaProg
import Derived.Test.YtmkcbbbknbahgaaRows
import Derived.WalkKit
import Derived.Test.YtmkcbbbknbahgaaEvW6
set_option linter.unusedVariables false
set_option linter.unusedSimpArgs false
namespace Go.Ev
open Go Go.RowKit Go.Proofs

/-- Whether a stretch lies in a rope. -/
def rngR (m : List (List Int)) (ws : List Win) (i j : Int) : Bool := cutR m ws j && decide (0 ≤ i ∧ i ≤ j)

theorem c165 (m : List (List Int)) (ws : List Win) (i j : Int) (hl1 : m.length ≤ 1048576) (hl2 : ∀ r, r ∈ m → r.length ≤ 1048576) (hw : ws.length ≤ 1048576) : Good Try.prog 165 [eMem m, eR ws, vi i, vi j] (vb (rngR m ws i j)) [] := by
  refine good_of (E := En 18) (fn := Try.f165) (by kernel_rfl) (by kernel_rfl) rfl rfl (by simp only [List.length_cons, List.length_nil]; decide) (fun C0 => ?_)
  simp only [argT, Nat.reduceAdd]
  refine ev_seq fun K1 h1 => ev_rf mB ?_
  repeat refine dr_act wN mb ma mc mT mR ?_
  refine dr_nil (h1 _ ?_); clear h1 K1
  refine ev_seq fun K1 h1 => ev_rf mB ?_
  repeat refine dr_act wN mb ma mc mT mR ?_
  refine dr_callF wN mr mb mx mr (c115 m ws j hl1 hl2 hw) (Nat.le_of_ble_eq_true rfl) mv mT mN ?_
  repeat refine dr_act wN mb ma mc mT mR ?_
  cases hR : cutR m ws j
  · iterate 3 refine dr_skip wG mT ?_
    repeat refine dr_act wN mb ma mc mT mR ?_
    refine dr_nil (h1 _ (ev_ret ?_)); clear h1
    exact retT [8] (hv := by rw [rngR, hR]; rfl)
  repeat refine dr_act wG mb ma mc mT mR ?_
  refine dr_callF wG mr mb mx mr (c133 i 0 j) (Nat.le_of_ble_eq_true rfl) mv mT mN ?_
  repeat refine dr_act wN mb ma mc mT mR ?_
  refine dr_nil (h1 _ (ev_ret ?_)); clear h1
  exact retT [8] (hv := by rw [rngR, hR]; rfl)

theorem c166 (ws : List Win) (i j : Int) (hw : ws.length ≤ 1048576) (hb : ∀ w, w ∈ ws → 0 ≤ w.n ∧ w.n ≤ 64) : Good Try.prog 166 [eR ws, vi i, vi j] (vb (decide (0 ≤ j ∧ j ≤ lenR ws) && decide (0 ≤ i ∧ i ≤ j))) [] := by
  refine good_of (E := En 16) (fn := Try.f166) (by kernel_rfl) (by kernel_rfl) rfl rfl (by simp only [List.length_cons, List.length_nil]; decide) (fun C0 => ?_)
  simp only [argT, Nat.reduceAdd]
  refine ev_seq fun K1 h1 => ev_rf mB ?_
  repeat refine dr_act wN mb ma mc mT mR ?_
  refine dr_nil (h1 _ ?_); clear h1 K1
  refine ev_seq fun K1 h1 => ev_rf mB ?_
  repeat refine dr_act wN mb ma mc mT mR ?_
  refine dr_callF wN mr mb mx mr (c124 ws hw hb) (Nat.le_of_ble_eq_true rfl) mv mT mN ?_
  refine dr_callF wN mr mb mx mr (c123 j 0 (lenR ws)) (Nat.le_of_ble_eq_true rfl) mv mT mN ?_
  repeat refine dr_act wN mb ma mc mT mR ?_
  cases hR : decide (0 ≤ j ∧ j ≤ lenR ws)
  · iterate 3 refine dr_skip wG mT ?_
    repeat refine dr_act wN mb ma mc mT mR ?_
    refine dr_nil (h1 _ (ev_ret ?_)); clear h1
    exact retT [6] (hv := by rw [hR]; rfl)
  repeat refine dr_act wG mb ma mc mT mR ?_
  refine dr_callF wG mr mb mx mr (c123 i 0 j) (Nat.le_of_ble_eq_true rfl) mv mT mN ?_
  repeat refine dr_act wN mb ma mc mT mR ?_
  refine dr_nil (h1 _ (ev_ret ?_)); clear h1
  exact retT [6] (hv := by rw [hR]; rfl)

/-- A rope without a stretch. -/
def delR (m : List (List Int)) (ws : List Win) (i j : Int) : Option (List Win) := if rngR m ws i j = true then jnd [splF (lenR ws) i ws 0, splS (lenR ws) j ws 0] else none

theorem rngR_ok {m : List (List Int)} {ws : List Win} {i j : Int} (h : rngR m ws i j = true) : SplOK ws i ∧ SplOK ws j := by
  simp only [rngR, Bool.and_eq_true, decide_eq_true_eq] at h
  have k := cutR_ok h.1
  exact ⟨⟨k.l, k.n, h.2.1, Int.le_trans h.2.2 k.i.2⟩, k⟩

theorem c135 (m : List (List Int)) (ws : List Win) (i j : Int) (hl1 : m.length ≤ 1048576) (hl2 : ∀ r, r ∈ m → r.length ≤ 1048576) (hw : ws.length ≤ 1048576) : Good Try.prog 135 [eMem m, eR ws, vi i, vi j] (oJ (delR m ws i j)) (rJ (delR m ws i j)) := by
  refine good_of (E := En 39) (fn := Try.f135) (by kernel_rfl) (by kernel_rfl) rfl rfl (by simp only [List.length_cons, List.length_nil]; decide) (fun C0 => ?_)
  simp only [argT, Nat.reduceAdd]
  refine ev_seq fun K1 h1 => ev_rf mB ?_
  repeat refine dr_act wN mb ma mc mT mR ?_
  refine dr_nil (h1 _ ?_); clear h1 K1
  refine ev_seq fun K1 h1 => ?_
  refine ev_seq fun K2 h2 => ev_rf mB ?_
  repeat refine dr_act wN mb ma mc mT mR ?_
  refine dr_callF wN mr mb mx mr (c165 m ws i j hl1 hl2 hw) (Nat.le_of_ble_eq_true rfl) mv mT mN ?_
  repeat refine dr_act wN mb ma mc mT mR ?_
  refine dr_nil (h2 _ ?_); clear h2
  cases hC : rngR m ws i j
  · have e : delR m ws i j = none := by rw [delR, if_neg (by rw [hC]; decide)]
    rw [e] at h1 ⊢
    refine ev_cond true mlq (fun h => ?_) (fun h => by cases h)
    refine ev_seq fun K2 h2 => ev_rf mB ?_
    repeat refine dr_act wN mb ma mc mT mR ?_
    refine dr_nil (h2 _ (ev_ret ?_)); clear h2 h1
    exact retL [] (res' := [.cell 8 98, .tmp 9]) mr (.cell nT mZ ma mc mP (.tmp nT mL .nil)) rfl mr (by decide) trivial
  obtain ⟨hs1, hs2⟩ := rngR_ok hC
  have hl12 := hs1.l
  have e : delR m ws i j = jnd [splF (lenR ws) i ws 0, splS (lenR ws) j ws 0] := by rw [delR, if_pos hC]
  rw [e]
  have hf := splF_len (lenR ws) i ws 0
  have hs := splS_len (lenR ws) j ws 0
  have k1 := c117 ws i hs1
  have k2 := c117 ws j hs2
  rw [e] at h1
  generalize splF (lenR ws) i ws 0 = f at *
  generalize splS (lenR ws) j ws 0 = s at *
  generalize splS (lenR ws) i ws 0 = f' at *
  generalize splF (lenR ws) j ws 0 = s' at *
  refine ev_cond false mlq (fun h => by cases h) (fun h => ev_skip (h1 _ ?_)); clear h1
  refine ev_seq fun K1 h1 => ev_rf mB ?_
  repeat refine dr_act wN mb ma mc mT mR ?_
  refine dr_callF wN mr mb mx mr k1 (Nat.le_of_ble_eq_true rfl) mv mT mN ?_
  repeat refine dr_act wN mb ma mc mT mR ?_
  refine dr_nil (h1 _ ?_); clear h1
  refine ev_seq fun K1 h1 => ev_rf mB ?_
  repeat refine dr_act wN mb ma mc mT mR ?_
  refine dr_callF wN mr mb mx mr k2 (Nat.le_of_ble_eq_true rfl) mv mT mN ?_
  repeat refine dr_act wN mb ma mc mT mR ?_
  refine dr_nil (h1 _ ?_); clear h1
  by_cases h12 : (f ++ s).length ≤ 12
  · rw [jnd2, if_pos h12]
    refine ev_seq fun K1 h1 => ev_rf mB ?_
    repeat refine dr_act wN mb ma mc mT mR ?_
    refine dr_call wN mr mb mx (.cons (fR mr) (.cons (fR mr) .nil)) (c119 f s (by omega) (by omega)) (Nat.le_of_ble_eq_true rfl) mv mT mN ?_
    refine dr_callR [256] [] wN mr mb mx (c118a (f ++ s) h12) (.ren rfl rfl .nil) (handW mr) ⟨⟨by decide, nz⟩, Nat.le_of_ble_eq_true rfl⟩ (v := .tup [oR 256 (f ++ s), vb true]) rfl mT (wrW.trans mRd) ?_
    repeat refine dr_act wN mb ma mc mT mR ?_
    refine dr_nil (h1 _ (ev_ret ?_)); clear h1
    exact retL [256] (res' := [.cell 8 98, .tmp 9]) mr (.cell nT mZ ma mc mP (.tmp nT mL .nil)) rfl mr (by decide) ⟨⟨mr, okRW⟩, trivial⟩
  · rw [jnd2, if_neg h12]
    refine ev_seq fun K1 h1 => ev_rf mB ?_
    repeat refine dr_act wN mb ma mc mT mR ?_
    refine dr_call wN mr mb mx (.cons (fR mr) (.cons (fR mr) .nil)) (c119 f s (by omega) (by omega)) (Nat.le_of_ble_eq_true rfl) mv mT mN ?_
    refine dr_callR [256] [] wN mr mb mx (c118b (f ++ s) (by omega)) (.ren rfl rfl .nil) (handW mr) ⟨⟨by decide, nz⟩, Nat.le_of_ble_eq_true rfl⟩ (v := .tup [zR, vb false]) rfl mT (wrW.trans mRd) ?_
    repeat refine dr_act wN mb ma mc mT mR ?_
    refine dr_nil (h1 _ (ev_ret ?_)); clear h1
    exact retL [] (res' := [.cell 8 98, .tmp 9]) mr (.cell nT mZ ma mc mP (.tmp nT mL .nil)) rfl mr (by decide) trivial

theorem c136 (m : List (List Int)) (ws : List Win) (i j : Int) (hl1 : m.length ≤ 1048576) (hl2 : ∀ r, r ∈ m → r.length ≤ 1048576) (hw : ws.length ≤ 1048576) : Good Try.prog 136 [eMem m, eR ws, vi i, vi j] (oJ (delR m ws i j)) (rJ (delR m ws i j)) := by
  refine good_of (E := En 44) (fn := Try.f136) (by kernel_rfl) (by kernel_rfl) rfl rfl (by simp only [List.length_cons, List.length_nil]; decide) (fun C0 => ?_)
  simp only [argT, Nat.reduceAdd]
  refine ev_seq fun K1 h1 => ev_rf mB ?_
  repeat refine dr_act wN mb ma mc mT mR ?_
  refine dr_nil (h1 _ ?_); clear h1 K1
  refine ev_seq fun K1 h1 => ?_
  refine ev_cut ⟨[(2, vi i), (3, vi j), (5, .ptr (8, none) 0 0), (8, .ptr (16, none) 0 0), (24, vb (!rngR m ws i j))], [(8, ⟨98, 1, [[eWS ws]]⟩), (16, ⟨98, 1, [[.val (.slice none 0 0)]]⟩)], 200⟩ (ev_rf mB ?_) ?_
  · repeat refine dr_act wN mb ma mc mT mR ?_
    refine dr_callF wN mr mb mx mr (c122 m ws hl1 hl2 hw) (Nat.le_of_ble_eq_true rfl) mv mT mN ?_
    cases hR : okR m ws
    · repeat refine dr_act wN mb ma mc mT mR ?_
      iterate 5 refine dr_skip wG mT ?_
      repeat refine dr_act wN mb ma mc mT mR ?_
      rw [show rngR m ws i j = false by simp [rngR, cutR, hR]]
      exact dr_nil (show Weak (En 44) C0 _ _ from weak_ren [] mK mK mD mQ)
    repeat refine dr_act wN mb ma mc mT mR ?_
    iterate 3 refine dr_act wG mb ma mc mT mR ?_
    refine dr_callF wG mr mb mx mr (c166 ws i j hw (okR_n hR)) (Nat.le_of_ble_eq_true rfl) mv mT mN ?_
    refine dr_act wG mb ma mc mT mR ?_
    repeat refine dr_act wN mb ma mc mT mR ?_
    rw [show rngR m ws i j = (decide (0 ≤ j ∧ j ≤ lenR ws) && decide (0 ≤ i ∧ i ≤ j)) by simp [rngR, cutR, hR]]
    exact dr_nil (show Weak (En 44) C0 _ _ from weak_ren [] mK mK mD mQ)
  cases hC : rngR m ws i j
  · have e : delR m ws i j = none := by rw [delR, if_neg (by rw [hC]; decide)]
    rw [e] at h1 ⊢
    refine ev_cond true mlq (fun h => ?_) (fun h => by cases h)
    refine ev_seq fun K2 h2 => ev_rf mB ?_
    repeat refine dr_act wN mb ma mc mT mR ?_
    refine dr_nil (h2 _ (ev_ret ?_)); clear h2 h1
    exact retL [] (res' := [.cell 8 98, .tmp 9]) mr (.cell nT mZ ma mc mP (.tmp nT mL .nil)) rfl mr (by decide) trivial
  obtain ⟨hs1, hs2⟩ := rngR_ok hC
  have hl12 := hs1.l
  have e : delR m ws i j = jnd [splF (lenR ws) i ws 0, splS (lenR ws) j ws 0] := by rw [delR, if_pos hC]
  rw [e] at h1 ⊢
  have hf := splF_len (lenR ws) i ws 0
  have hs := splS_len (lenR ws) j ws 0
  have k1 := c125 ws i hs1
  have k2 := c125 ws j hs2
  generalize splF (lenR ws) i ws 0 = f at *
  generalize splS (lenR ws) j ws 0 = s at *
  generalize splS (lenR ws) i ws 0 = f' at *
  generalize splF (lenR ws) j ws 0 = s' at *
  refine ev_cond false mlq (fun h => by cases h) (fun h => ev_skip (h1 _ ?_)); clear h1
  refine ev_seq fun K1 h1 => ev_rf mB ?_
  repeat refine dr_act wN mb ma mc mT mR ?_
  refine dr_callF wN mr mb mx mr k1 (Nat.le_of_ble_eq_true rfl) mv mT mN ?_
  repeat refine dr_act wN mb ma mc mT mR ?_
  refine dr_nil (h1 _ ?_); clear h1
  refine ev_seq fun K1 h1 => ev_rf mB ?_
  repeat refine dr_act wN mb ma mc mT mR ?_
  refine dr_callF wN mr mb mx mr k2 (Nat.le_of_ble_eq_true rfl) mv mT mN ?_
  repeat refine dr_act wN mb ma mc mT mR ?_
  refine dr_nil (h1 _ ?_); clear h1
  have hc := c126 [f, s] (by simp) (by simp; omega)
  refine ev_seq fun K1 h1 => ev_rf mB ?_
  repeat refine dr_act wN mb ma mc mT mR ?_
  refine dr_act wN mb ma (by exact ⟨⟨rfl, by decide, by simp⟩, ⟨okNW, okNW⟩, by decide⟩) mT mR ?_
  rcases hj : jnd [f, s] with _ | t
  · rw [hj] at hc h1
    refine dr_call wN mr mb mx (.cons (.cell (fWSS (wss := [f, s]) mr rfl)) .nil) hc (Nat.le_of_ble_eq_true rfl) mv mT mN ?_
    repeat refine dr_act wN mb ma mc mT mR ?_
    refine dr_nil (h1 _ (ev_ret ?_)); clear h1
    exact retL [] (res' := [.cell 8 98, .tmp 9]) mr (.cell nT mZ ma mc mP (.tmp nT mL .nil)) rfl mr (by decide) trivial
  · rw [hj] at hc h1
    refine dr_call wN mr mb mx (.cons (.cell (fWSS (wss := [f, s]) mr rfl)) .nil) hc (Nat.le_of_ble_eq_true rfl) mv mT mN ?_
    repeat refine dr_act wN mb ma mc mT mR ?_
    refine dr_nil (h1 _ (ev_ret ?_)); clear h1
    exact retL [352] (res' := [.cell 8 98, .tmp 9]) mr (.cell nT mZ ma mc mP (.tmp nT mL .nil)) rfl mr (by decide) ⟨⟨mr, okRW⟩, trivial⟩

abbrev v8 (b : Int) : V := .val (.int .u8 b)

/-- Whether a rope has the byte. -/
def wtB (m : List (List Int)) (ws : List Win) (i : Int) : Bool := okR m ws && decide (0 ≤ i ∧ i ≤ lenR ws - 1)
/-- A rope with another byte. -/
def wtR (m : List (List Int)) (ws : List Win) (i b : Int) : Option (List (List Int) × List Win) :=
  if wtB m ws i = true then
    match delR m ws i (i + 1) with
    | none => none
    | some ws1 => insR m ws1 i [b]
  else none

theorem delR_len {m : List (List Int)} {ws r : List Win} {i j : Int} (h : delR m ws i j = some r) : r.length ≤ 12 := by
  unfold delR at h
  split at h
  · unfold jnd at h
    split at h
    · rename_i hl; cases h; exact hl
    · cases h
  · cases h

theorem fBl {R : Rs} {n ty k : Nat} {xs : List Int} (h : R n = some ⟨ty, 1, xs.map cB⟩) (hk : k = xs.length) : FrzC R (.ref (n, none) 0 k) (eB xs) :=
  fB (act_of h) (by rw [hk, List.drop_zero, List.take_length])

theorem c67 (m : List (List Int)) (ws : List Win) (i b : Int) (hl1 : m.length ≤ 1048576) (hl2 : ∀ r, r ∈ m → r.length ≤ 1048576) (hw : ws.length ≤ 1048576) : Good Try.prog 67 [eMem m, eR ws, vi i, v8 b] (oMR (wtR m ws i b)) (rMR (wtR m ws i b)) := by
  refine good_of (E := En 49) (fn := Try.f67) (by kernel_rfl) (by kernel_rfl) rfl rfl (by simp only [List.length_cons, List.length_nil]; decide) (fun C0 => ?_)
  simp only [argT, Nat.reduceAdd]
  refine ev_seq fun K1 h1 => ev_rf mB ?_
  repeat refine dr_act wN mb ma mc mT mR ?_
  refine dr_nil (h1 _ ?_); clear h1 K1
  refine ev_seq fun K1 h1 => ?_
  refine ev_cut ⟨[(2, vi i), (3, v8 b), (4, .ptr (0, none) 0 0), (5, .ptr (8, none) 0 0), (8, .ptr (16, none) 0 0), (9, .ptr (24, none) 0 0), (24, vb (!wtB m ws i))], [(0, ⟨31, 1, [[eM m]]⟩), (8, ⟨98, 1, [[eWS ws]]⟩), (16, ⟨31, 1, [[.val (.slice none 0 0)]]⟩), (24, ⟨98, 1, [[.val (.slice none 0 0)]]⟩)], 200⟩ (ev_rf mB ?_) ?_
  · repeat refine dr_act wN mb ma mc mT mR ?_
    refine dr_callF wN mr mb mx mr (c132 m ws hl1 hl2 hw) (Nat.le_of_ble_eq_true rfl) mv mT mN ?_
    cases hR : okR m ws
    · repeat refine dr_act wN mb ma mc mT mR ?_
      iterate 6 refine dr_skip wG mT ?_
      repeat refine dr_act wN mb ma mc mT mR ?_
      rw [show wtB m ws i = false by simp [wtB, hR]]
      exact dr_nil (show Weak (En 49) C0 _ _ from weak_ren [] mK mK mD mQ)
    have hL := lenR_le ws (okR_n hR)
    have w1 : IntKind.i64.wrap (lenR ws - 1) = lenR ws - 1 := wrap_of (by omega) (by omega)
    repeat refine dr_act wN mb ma mc mT mR ?_
    iterate 2 refine dr_act wG mb ma mc mT mR ?_
    refine dr_callF wG mr mb mx mr (c134 ws hw (okR_n hR)) (Nat.le_of_ble_eq_true rfl) mv mT mN ?_
    refine dr_act wG mb ma mc mT mR ?_
    rw [w1]
    refine dr_callF wG mr mb mx mr (c133 i 0 (lenR ws - 1)) (Nat.le_of_ble_eq_true rfl) mv mT mN ?_
    refine dr_act wG mb ma mc mT mR ?_
    repeat refine dr_act wN mb ma mc mT mR ?_
    rw [show wtB m ws i = decide (0 ≤ i ∧ i ≤ lenR ws - 1) by simp [wtB, hR]]
    exact dr_nil (show Weak (En 49) C0 _ _ from weak_ren [] mK mK mD mQ)
  cases hC : wtB m ws i
  · have e : wtR m ws i b = none := by rw [wtR, if_neg (by rw [hC]; decide)]
    rw [e] at h1 ⊢
    refine ev_cond true mlq (fun h => ?_) (fun h => by cases h)
    refine ev_seq fun K2 h2 => ev_rf mB ?_
    repeat refine dr_act wN mb ma mc mT mR ?_
    refine dr_nil (h2 _ (ev_ret ?_)); clear h2 h1
    exact retL [] (res' := [.cell 8 31, .cell 9 98, .tmp 10]) mr (.cell nT mZ ma mc mP (.cell nT mZ ma mc mP (.tmp nT mL .nil))) rfl mr (by decide) trivial
  have e : wtR m ws i b = match delR m ws i (i + 1) with
    | none => none
    | some ws1 => insR m ws1 i [b] := by rw [wtR, if_pos hC]
  have hi : 0 ≤ i ∧ i ≤ 1048576 * 64 := by
    simp only [wtB, Bool.and_eq_true, decide_eq_true_eq] at hC
    have := lenR_le ws (okR_n hC.1)
    omega
  have w1 : IntKind.i64.wrap (i + 1) = i + 1 := wrap_of (by omega) (by omega)
  refine ev_cond false mlq (fun h => by cases h) (fun h => ev_skip (h1 _ ?_)); clear h1
  have k1 := c135 m ws i (i + 1) hl1 hl2 hw
  refine ev_seq fun K1 h1 => ev_rf mB ?_
  repeat refine dr_act wN mb ma mc mT mR ?_
  rw [w1]
  rcases hd : delR m ws i (i + 1) with _ | ws1
  · rw [hd] at k1 e
    rw [e] at h1 ⊢
    refine dr_callF wN mr mb mx mr k1 (Nat.le_of_ble_eq_true rfl) mv mT mN ?_
    repeat refine dr_act wN mb ma mc mT mR ?_
    refine dr_nil (h1 _ ?_); clear h1
    refine ev_seq fun K1 h1 => ?_
    refine ev_seq fun K2 h2 => ev_rf mB ?_
    repeat refine dr_act wN mb ma mc mT mR ?_
    refine dr_nil (h2 _ ?_); clear h2
    refine ev_cond true mlq (fun h => ?_) (fun h => by cases h)
    refine ev_seq fun K2 h2 => ev_rf mB ?_
    repeat refine dr_act wN mb ma mc mT mR ?_
    refine dr_nil (h2 _ (ev_ret ?_)); clear h2 h1
    exact retL [] (res' := [.cell 8 31, .cell 9 98, .tmp 10]) mr (.cell nT mZ ma mc mP (.cell nT mZ ma mc mP (.tmp nT mL .nil))) rfl mr (by decide) trivial
  have hw1 := delR_len hd
  rw [hd] at k1 e
  simp only [] at e
  rw [e] at h1 ⊢
  refine dr_callF wN mr mb mx mr k1 (Nat.le_of_ble_eq_true rfl) mv mT mN ?_
  repeat refine dr_act wN mb ma mc mT mR ?_
  refine dr_nil (h1 _ ?_); clear h1
  refine ev_seq fun K1 h1 => ?_
  refine ev_seq fun K2 h2 => ev_rf mB ?_
  repeat refine dr_act wN mb ma mc mT mR ?_
  refine dr_nil (h2 _ ?_); clear h2
  refine ev_cond false mlq (fun h => by cases h) (fun h => ev_skip (h1 _ ?_)); clear h1
  have k2 := c57 m ws1 i [b] hl1 hl2 (by omega) (by simp)
  rcases hn : insR m ws1 i [b] with _ | ⟨m2, ws2⟩
  · rw [hn] at k2
    refine ev_seq fun K1 h1 => ev_rf mB ?_
    repeat refine dr_act wN mb ma mc mT mR ?_
    refine dr_call wN mr mb mx (.cons (fN rfl) (.cons (fR mr) (.cons (fN rfl) (.cons (.cell (fBl mr rfl)) .nil)))) k2 (Nat.le_of_ble_eq_true rfl) mv mT mN ?_
    repeat refine dr_act wN mb ma mc mT mR ?_
    refine dr_nil (h1 _ (ev_ret ?_)); clear h1
    exact retL [] (res' := [.cell 8 31, .cell 9 98, .tmp 10]) mr (.cell nT mZ ma mc mP (.cell nT mZ ma mc mP (.tmp nT mL .nil))) rfl mr (by decide) trivial
  · rw [hn] at k2
    refine ev_seq fun K1 h1 => ev_rf mB ?_
    repeat refine dr_act wN mb ma mc mT mR ?_
    refine dr_call wN mr mb mx (.cons (fN rfl) (.cons (fR mr) (.cons (fN rfl) (.cons (.cell (fBl mr rfl)) .nil)))) k2 (Nat.le_of_ble_eq_true rfl) mv mT mN ?_
    repeat refine dr_act wN mb ma mc mT mR ?_
    refine dr_nil (h1 _ (ev_ret ?_)); clear h1
    exact retL [352, 353] (res' := [.cell 8 31, .cell 9 98, .tmp 10]) mr (.cell nT mZ ma mc mP (.cell nT mZ ma mc mP (.tmp nT mL .nil))) rfl mr (by decide) ⟨⟨mr, okRM⟩, ⟨mr, okRW⟩, trivial⟩

theorem c68 (m : List (List Int)) (ws : List Win) (i b : Int) (hl1 : m.length ≤ 1048576) (hl2 : ∀ r, r ∈ m → r.length ≤ 1048576) (hw : ws.length ≤ 1048576) : Good Try.prog 68 [eMem m, eR ws, vi i, v8 b] (oMR (wtR m ws i b)) (rMR (wtR m ws i b)) := by
  refine good_of (E := En 49) (fn := Try.f68) (by kernel_rfl) (by kernel_rfl) rfl rfl (by simp only [List.length_cons, List.length_nil]; decide) (fun C0 => ?_)
  simp only [argT, Nat.reduceAdd]
  refine ev_seq fun K1 h1 => ev_rf mB ?_
  repeat refine dr_act wN mb ma mc mT mR ?_
  refine dr_nil (h1 _ ?_); clear h1 K1
  refine ev_seq fun K1 h1 => ?_
  refine ev_cut ⟨[(2, vi i), (3, v8 b), (4, .ptr (0, none) 0 0), (5, .ptr (8, none) 0 0), (8, .ptr (16, none) 0 0), (9, .ptr (24, none) 0 0), (24, vb (!wtB m ws i))], [(0, ⟨31, 1, [[eM m]]⟩), (8, ⟨98, 1, [[eWS ws]]⟩), (16, ⟨31, 1, [[.val (.slice none 0 0)]]⟩), (24, ⟨98, 1, [[.val (.slice none 0 0)]]⟩)], 200⟩ (ev_rf mB ?_) ?_
  · repeat refine dr_act wN mb ma mc mT mR ?_
    refine dr_callF wN mr mb mx mr (c122 m ws hl1 hl2 hw) (Nat.le_of_ble_eq_true rfl) mv mT mN ?_
    cases hR : okR m ws
    · repeat refine dr_act wN mb ma mc mT mR ?_
      iterate 6 refine dr_skip wG mT ?_
      repeat refine dr_act wN mb ma mc mT mR ?_
      rw [show wtB m ws i = false by simp [wtB, hR]]
      exact dr_nil (show Weak (En 49) C0 _ _ from weak_ren [] mK mK mD mQ)
    have hL := lenR_le ws (okR_n hR)
    have w1 : IntKind.i64.wrap (lenR ws - 1) = lenR ws - 1 := wrap_of (by omega) (by omega)
    repeat refine dr_act wN mb ma mc mT mR ?_
    iterate 2 refine dr_act wG mb ma mc mT mR ?_
    refine dr_callF wG mr mb mx mr (c124 ws hw (okR_n hR)) (Nat.le_of_ble_eq_true rfl) mv mT mN ?_
    refine dr_act wG mb ma mc mT mR ?_
    rw [w1]
    refine dr_callF wG mr mb mx mr (c123 i 0 (lenR ws - 1)) (Nat.le_of_ble_eq_true rfl) mv mT mN ?_
    refine dr_act wG mb ma mc mT mR ?_
    repeat refine dr_act wN mb ma mc mT mR ?_
    rw [show wtB m ws i = decide (0 ≤ i ∧ i ≤ lenR ws - 1) by simp [wtB, hR]]
    exact dr_nil (show Weak (En 49) C0 _ _ from weak_ren [] mK mK mD mQ)
  cases hC : wtB m ws i
  · have e : wtR m ws i b = none := by rw [wtR, if_neg (by rw [hC]; decide)]
    rw [e] at h1 ⊢
    refine ev_cond true mlq (fun h => ?_) (fun h => by cases h)
    refine ev_seq fun K2 h2 => ev_rf mB ?_
    repeat refine dr_act wN mb ma mc mT mR ?_
    refine dr_nil (h2 _ (ev_ret ?_)); clear h2 h1
    exact retL [] (res' := [.cell 8 31, .cell 9 98, .tmp 10]) mr (.cell nT mZ ma mc mP (.cell nT mZ ma mc mP (.tmp nT mL .nil))) rfl mr (by decide) trivial
  have e : wtR m ws i b = match delR m ws i (i + 1) with
    | none => none
    | some ws1 => insR m ws1 i [b] := by rw [wtR, if_pos hC]
  have hi : 0 ≤ i ∧ i ≤ 1048576 * 64 := by
    simp only [wtB, Bool.and_eq_true, decide_eq_true_eq] at hC
    have := lenR_le ws (okR_n hC.1)
    omega
  have w1 : IntKind.i64.wrap (i + 1) = i + 1 := wrap_of (by omega) (by omega)
  refine ev_cond false mlq (fun h => by cases h) (fun h => ev_skip (h1 _ ?_)); clear h1
  have k1 := c136 m ws i (i + 1) hl1 hl2 hw
  refine ev_seq fun K1 h1 => ev_rf mB ?_
  repeat refine dr_act wN mb ma mc mT mR ?_
  rw [w1]
  rcases hd : delR m ws i (i + 1) with _ | ws1
  · rw [hd] at k1 e
    rw [e] at h1 ⊢
    refine dr_callF wN mr mb mx mr k1 (Nat.le_of_ble_eq_true rfl) mv mT mN ?_
    repeat refine dr_act wN mb ma mc mT mR ?_
    refine dr_nil (h1 _ ?_); clear h1
    refine ev_seq fun K1 h1 => ?_
    refine ev_seq fun K2 h2 => ev_rf mB ?_
    repeat refine dr_act wN mb ma mc mT mR ?_
    refine dr_nil (h2 _ ?_); clear h2
    refine ev_cond true mlq (fun h => ?_) (fun h => by cases h)
    refine ev_seq fun K2 h2 => ev_rf mB ?_
    repeat refine dr_act wN mb ma mc mT mR ?_
    refine dr_nil (h2 _ (ev_ret ?_)); clear h2 h1
    exact retL [] (res' := [.cell 8 31, .cell 9 98, .tmp 10]) mr (.cell nT mZ ma mc mP (.cell nT mZ ma mc mP (.tmp nT mL .nil))) rfl mr (by decide) trivial
  have hw1 := delR_len hd
  rw [hd] at k1 e
  simp only [] at e
  rw [e] at h1 ⊢
  refine dr_callF wN mr mb mx mr k1 (Nat.le_of_ble_eq_true rfl) mv mT mN ?_
  repeat refine dr_act wN mb ma mc mT mR ?_
  refine dr_nil (h1 _ ?_); clear h1
  refine ev_seq fun K1 h1 => ?_
  refine ev_seq fun K2 h2 => ev_rf mB ?_
  repeat refine dr_act wN mb ma mc mT mR ?_
  refine dr_nil (h2 _ ?_); clear h2
  refine ev_cond false mlq (fun h => by cases h) (fun h => ev_skip (h1 _ ?_)); clear h1
  have k2 := c60 m ws1 i [b] hl1 hl2 (by omega) (by simp)
  rcases hn : insR m ws1 i [b] with _ | ⟨m2, ws2⟩
  · rw [hn] at k2
    refine ev_seq fun K1 h1 => ev_rf mB ?_
    repeat refine dr_act wN mb ma mc mT mR ?_
    refine dr_call wN mr mb mx (.cons (fN rfl) (.cons (fR mr) (.cons (fN rfl) (.cons (.cell (fBl mr rfl)) .nil)))) k2 (Nat.le_of_ble_eq_true rfl) mv mT mN ?_
    repeat refine dr_act wN mb ma mc mT mR ?_
    refine dr_nil (h1 _ (ev_ret ?_)); clear h1
    exact retL [] (res' := [.cell 8 31, .cell 9 98, .tmp 10]) mr (.cell nT mZ ma mc mP (.cell nT mZ ma mc mP (.tmp nT mL .nil))) rfl mr (by decide) trivial
  · rw [hn] at k2
    refine ev_seq fun K1 h1 => ev_rf mB ?_
    repeat refine dr_act wN mb ma mc mT mR ?_
    refine dr_call wN mr mb mx (.cons (fN rfl) (.cons (fR mr) (.cons (fN rfl) (.cons (.cell (fBl mr rfl)) .nil)))) k2 (Nat.le_of_ble_eq_true rfl) mv mT mN ?_
    repeat refine dr_act wN mb ma mc mT mR ?_
    refine dr_nil (h1 _ (ev_ret ?_)); clear h1
    exact retL [352, 353] (res' := [.cell 8 31, .cell 9 98, .tmp 10]) mr (.cell nT mZ ma mc mP (.cell nT mZ ma mc mP (.tmp nT mL .nil))) rfl mr (by decide) ⟨⟨mr, okRM⟩, ⟨mr, okRW⟩, trivial⟩
end Go.Ev
namespace Go.Ev
open Go Go.RowKit Go.Proofs

theorem wtR_ok (m : List (List Int)) (ws : List Win) (i b : Int) : GM (uMR (wtR m ws i b)).1 ∧ (uMR (wtR m ws i b)).2.1.length ≤ 12 := by
  have hz : GM (uMR none).1 ∧ (uMR none).2.1.length ≤ 12 := ⟨⟨Nat.zero_le _, fun r hr => by simp [uMR] at hr, fun r hr => by simp [uMR] at hr⟩, Nat.zero_le _⟩
  unfold wtR
  split
  · split
    · exact hz
    · exact insR_ok _ _ _ _
  · exact hz

theorem c10 (m : List (List Int)) (ws : List Win) (i b : Int) (hl : Len m) (hw1 : ws.length ≤ maxLen) : Good Try.prog 10 [eMem m, eR ws, vi i, v8 b] (vb true) [] := by
  refine good_of (E := En 166) (fn := Try.f10) (by kernel_rfl) (by kernel_rfl) rfl rfl (by simp only [List.length_cons, List.length_nil]; decide) (fun C0 => ?_)
  simp only [argT, Nat.reduceAdd]
  refine ev_seq fun K1 h1 => ev_rf mB ?_
  repeat refine dr_act wN mb ma mc mT mR ?_
  refine dr_nil (h1 _ ?_); clear h1
  refine ev_seq fun K1 h1 => ev_rf mB ?_
  repeat refine dr_act wN mb ma mc mT mR ?_
  refine dr_nil (h1 _ ?_); clear h1
  refine ev_seq fun K1 h1 => ev_rf mB ?_
  repeat refine dr_act wN mb ma mc mT mR ?_
  refine dr_callF wN mr mb mx mr (c55 m 1048576 hl ⟨by decide, by decide⟩) (Nat.le_of_ble_eq_true rfl) mv mT mN ?_
  repeat refine dr_act wN mb ma mc mT mR ?_
  refine dr_nil (h1 _ ?_); clear h1
  refine ev_seq fun K1 h1 => ?_
  refine ev_seq fun K2 h2 => ev_rf mB ?_
  repeat refine dr_act wN mb ma mc mT mR ?_
  refine dr_nil (h2 _ ?_); clear h2
  refine ev_cond _ ml (fun h => ?_) (fun h => ev_skip (h1 _ ?_)) <;> clear h1
  · skip
    refine ev_seq fun K2 h2 => ev_rf mB ?_
    repeat refine dr_act wN mb ma mc mT mR ?_
    refine dr_nil (h2 _ (ev_ret ?_)); clear h2
    exact retT [8] (hv := rfl)
  have hk0 := of_decide_eq_false h
  obtain ⟨hm1, hm2, hm3⟩ := szM_bound (m := m) (by omega)
  have hk1 : 0 ≤ szM m 1048576 ∧ szM m 1048576 ≤ 1048576 := by
    rcases szM_le m 1048576 (by decide) with h | h <;> omega
  generalize szM m 1048576 = k1 at *
  clear h
  refine ev_seq fun K1 h1 => ev_rf mB ?_
  repeat refine dr_act wN mb ma mc mT mR ?_
  refine dr_callF wN mr mb mx mr (c56 ws k1 hw1 hk1) (Nat.le_of_ble_eq_true rfl) mv mT mN ?_
  repeat refine dr_act wN mb ma mc mT mR ?_
  refine dr_nil (h1 _ ?_); clear h1
  refine ev_seq fun K1 h1 => ?_
  refine ev_seq fun K2 h2 => ev_rf mB ?_
  repeat refine dr_act wN mb ma mc mT mR ?_
  refine dr_nil (h2 _ ?_); clear h2
  refine ev_cond _ ml (fun h => ?_) (fun h => ev_skip (h1 _ ?_)) <;> clear h1
  · skip
    refine ev_seq fun K2 h2 => ev_rf mB ?_
    repeat refine dr_act wN mb ma mc mT mR ?_
    refine dr_nil (h2 _ (ev_ret ?_)); clear h2
    exact retT [8] (hv := rfl)
  have hs := of_decide_eq_false h
  have hw : ws.length ≤ 1048576 := by have := szWS_le (ws := ws) hk1.1 (by omega); omega
  clear h hs
  have hu57 := uniI (c67 m ws i b hm1 hm2 hw)
  have hu60 := uniI (c68 m ws i b hm1 hm2 hw)
  obtain ⟨hgm, hwl⟩ := wtR_ok m ws i b
  obtain ⟨⟨m', ws', ok⟩, hdr⟩ : ∃ x, uMR (wtR m ws i b) = x := ⟨_, rfl⟩
  rw [hdr] at hu57 hu60 hgm hwl
  dsimp only at hu57 hu60 hgm hwl
  clear hdr
  have hrt := hgm.tot
  have hrl := hgm.l
  have h61 : Good Try.prog 61 [eMem m', eMem m'] (vb true) [] := by
    have h := c61 m' m' ⟨by simp only [maxLen]; omega, fun x hx => by have := hgm.r x hx; simp only [maxLen]; omega⟩
    rw [decide_eq_true rfl] at h
    exact h
  have h62 : Good Try.prog 62 [eR ws', eR ws'] (vb true) [] := by
    have h := c62 ws' ws' (by simp only [maxLen]; omega)
    rw [decide_eq_true rfl] at h
    exact h
  have g61 : Good Try.prog 61 [eMem m, eMem m] (vb true) [] := by
    have h := c61 m m hl
    rw [decide_eq_true rfl] at h
    exact h
  have g62 : Good Try.prog 62 [eR ws, eR ws] (vb true) [] := by
    have h := c62 ws ws hw1
    rw [decide_eq_true rfl] at h
    exact h
  have h65 : Good Try.prog 65 [eMem (mkM 1 m'), vi 1] (vi (1 + tot m')) [] := by
    have h := c65 (mkM 1 m') 1 (by decide) (by rw [mkM_tot]; omega) (by rw [mkM_length]; omega)
    have e : hdM (mkM 1 m') 1 = 1 + tot m' := by rw [hdM, mkM_mkM, if_pos rfl, mkM_tot]
    rw [e] at h
    exact h
  have h66 : Good Try.prog 66 [eR (mkW (1 + tot m') ws'.length), vi (1 + tot m')] (vi (1 + tot m' + 4 * (ws'.length : Nat))) [] := by
    have h := c66 (mkW (1 + tot m') ws'.length) (1 + tot m') (by rw [mkW_len]; omega) (by omega) (by omega)
    have e : hdW (mkW (1 + tot m') ws'.length) (1 + tot m') = 1 + tot m' + 4 * (ws'.length : Nat) := by rw [hdW, mkW_len, if_pos rfl]
    rw [e] at h
    exact h
  have hoo : (!(ok == ok)) = false := by cases ok <;> rfl
  refine ev_weak (σ' := ⟨[(2, vi i), (3, v8 b), (4, .ptr (0, none) 0 0), (5, .ptr (8, none) 0 0)], [(0, ⟨24, 1, [[eM m]]⟩), (8, ⟨94, 1, [[eWS ws]]⟩)], 200⟩) (weak_ren [] mK mK mD mQ) ?_
  refine ev_seq fun K1 h1 => ev_reg mB ?_
  repeat refine dr_act wN mb ma mc mT mR ?_
  refine dr_callF wN mr mb mx mr (c58 m hm1 hm2) (Nat.le_of_ble_eq_true rfl) mv mT mN ?_
  repeat refine dr_act wN mb ma mc mT mR ?_
  refine dr_callF wN mr mb mx mr (c59 ws hw) (Nat.le_of_ble_eq_true rfl) mv mT mN ?_
  repeat refine dr_act wN mb ma mc mT mR ?_
  refine dr_call wN mr mb mx (.cons (.agg (.cons (fM mr rfl) .nil)) (.cons (fR mr) (.cons (fN rfl) (.cons (fN rfl) .nil)))) (hu57) (Nat.le_of_ble_eq_true rfl) mv mT mN ?_
  repeat refine dr_act wN mb ma mc mT mR ?_
  refine dr_nil ⟨fun _ => by kernel_rfl, h1 _ ?_⟩; clear h1
  refine ev_seq fun K1 h1 => ev_rf mB ?_
  repeat refine dr_act wN mb ma mc mT mR ?_
  refine dr_callF wN mr mb mx mr (c58 m hm1 hm2) (Nat.le_of_ble_eq_true rfl) mv mT mN ?_
  repeat refine dr_act wN mb ma mc mT mR ?_
  refine dr_nil (h1 _ ?_); clear h1
  refine ev_seq fun K1 h1 => ev_rf mB ?_
  repeat refine dr_act wN mb ma mc mT mR ?_
  refine dr_callF wN mr mb mx mr (c59 ws hw) (Nat.le_of_ble_eq_true rfl) mv mT mN ?_
  repeat refine dr_act wN mb ma mc mT mR ?_
  refine dr_nil (h1 _ ?_); clear h1
  refine ev_seq fun K1 h1 => ev_rf mB ?_
  repeat refine dr_act wN mb ma mc mT mR ?_
  refine dr_call wN mr mb mx (.cons (.agg (.cons (fM mr rfl) .nil)) (.cons (fR mr) (.cons (fN rfl) (.cons (fN rfl) .nil)))) (hu60) (Nat.le_of_ble_eq_true rfl) mv mT mN ?_
  repeat refine dr_act wN mb ma mc mT mR ?_
  refine dr_nil (h1 _ ?_); clear h1
  refine ev_weak (σ' := ⟨[(2, vi i), (3, v8 b), (4, .ptr (0, none) 0 0), (5, .ptr (8, none) 0 0), (10, .ptr (288, none) 0 0), (11, .ptr (296, none) 0 0), (12, vb ok), (15, .ptr (464, none) 0 0), (16, .ptr (472, none) 0 0), (17, vb ok), (13, .ptr (344, none) 0 0), (14, .ptr (376, none) 0 0)], [(0, ⟨24, 1, [[eM m]]⟩), (8, ⟨94, 1, [[eWS ws]]⟩), (288, ⟨31, 1, [[.ref (248, none) 0 m'.length]]⟩), (296, ⟨98, 1, [[.ref (249, none) 0 ws'.length]]⟩), (344, ⟨31, 1, [[.ref (336, none) 0 m.length]]⟩), (376, ⟨98, 1, [[.ref (368, none) 0 ws.length]]⟩), (464, ⟨31, 1, [[.ref (424, none) 0 m'.length]]⟩), (472, ⟨98, 1, [[.ref (425, none) 0 ws'.length]]⟩), (248, rM m'), (249, rWS ws'), (336, rM m), (368, rWS ws), (424, rM m'), (425, rWS ws')], 600⟩) (weak_ren [] mK (chkR_cons mK (chkR_cons mK (chkR_cons mK (chkR_cons mK (chkR_cons mK (chkR_cons mK (chkR_cons mK (chkR_cons mK (chkRm rfl (by decide) rfl (fun _ => rfl) (fun a => by first | rfl | simp [okC]) (chkRm rfl (by decide) rfl (fun _ => rfl) (fun a => by first | rfl | simp [okC]) (chkRm rfl (by decide) rfl (fun _ => rfl) (fun a => by first | rfl | simp [okC]) (chkRm rfl (by decide) rfl (fun _ => rfl) (fun a => by first | rfl | simp [okC]) (chkRm rfl (by decide) rfl (fun _ => rfl) (fun a => by first | rfl | simp [okC]) (chkRm rfl (by decide) rfl (fun _ => rfl) (fun a => by first | rfl | simp [okC]) trivial)))))))))))))) mD mQ) ?_
  refine ev_seq fun K1 h1 => ?_
  refine ev_seq fun K2 h2 => ev_rf mB ?_
  repeat refine dr_act wN mb ma mc mT mR ?_
  refine dr_call wN mr mb mx (.cons (.agg (.cons (fM mr rfl) .nil)) (.cons (.agg (.cons (fM mr rfl) .nil)) .nil)) (h61) (Nat.le_of_ble_eq_true rfl) mv mT mN ?_
  repeat refine dr_act wN mb ma mc mT mR ?_
  iterate 2 refine dr_act wG mb ma mc mT mR ?_
  refine dr_call wG mr mb mx (.cons (fR mr) (.cons (fR mr) .nil)) (h62) (Nat.le_of_ble_eq_true rfl) mv mT mN ?_
  iterate 1 refine dr_act wG mb ma mc mT mR ?_
  iterate 2 refine dr_act wN mb ma mc mT mR ?_
  iterate 3 refine dr_act wG mb ma mc mT mR ?_
  rw [hoo]
  repeat refine dr_act wN mb ma mc mT mR ?_
  refine dr_nil (h2 _ ?_); clear h2
  refine ev_cond false mlq (fun h => by cases h) (fun h => ev_skip (h1 _ ?_)); clear h1
  refine ev_seq fun K1 h1 => ?_
  refine ev_seq fun K2 h2 => ev_reg mB ?_
  repeat refine dr_act wN mb ma mc mT mR ?_
  refine dr_callF wN mr mb mx mr (c58 m hm1 hm2) (Nat.le_of_ble_eq_true rfl) mv mT mN ?_
  refine dr_call wN mr mb mx (.cons (.agg (.cons (fM mr rfl) .nil)) (.cons (.agg (.cons (fM mr rfl) .nil)) .nil)) (g61) (Nat.le_of_ble_eq_true rfl) mv mT mN ?_
  repeat refine dr_act wN mb ma mc mT mR ?_
  refine dr_nil ⟨fun _ => by kernel_rfl, h2 _ ?_⟩; clear h2
  refine ev_cond false mlq (fun h => by cases h) (fun h => ev_skip (h1 _ ?_)); clear h1
  refine ev_seq fun K1 h1 => ?_
  refine ev_seq fun K2 h2 => ev_reg mB ?_
  repeat refine dr_act wN mb ma mc mT mR ?_
  refine dr_callF wN mr mb mx mr (c59 ws hw) (Nat.le_of_ble_eq_true rfl) mv mT mN ?_
  refine dr_call wN mr mb mx (.cons (fR mr) (.cons (fR mr) .nil)) (g62) (Nat.le_of_ble_eq_true rfl) mv mT mN ?_
  repeat refine dr_act wN mb ma mc mT mR ?_
  refine dr_nil ⟨fun _ => by kernel_rfl, h2 _ ?_⟩; clear h2
  refine ev_cond false mlq (fun h => by cases h) (fun h => ev_skip (h1 _ ?_)); clear h1
  refine ev_seq fun K1 h1 => ev_rf mB ?_
  repeat refine dr_act wN mb ma mc mT mR ?_
  refine dr_nil (h1 _ ?_); clear h1
  refine ev_seq fun K1 h1 => ev_rf mB ?_
  repeat refine dr_act wN mb ma mc mT mR ?_
  refine dr_callR [336] [] wN mr mb mx (c63 m 1 hm1 (by decide) (by omega)) (.ren rfl rfl (.ren rfl rfl .nil)) (hand1 mr) ⟨⟨by decide, nz⟩, Nat.le_of_ble_eq_true rfl⟩ (v := vi (1 + tot m)) rfl mT (wr1.trans mRd) ?_
  repeat refine dr_act wN mb ma mc mT mR ?_
  refine dr_nil (h1 _ ?_); clear h1
  refine ev_seq fun K1 h1 => ev_rf mB ?_
  repeat refine dr_act wN mb ma mc mT mR ?_
  refine dr_callR [368] [] wN mr mb mx (c64 ws (1 + tot m) hw (by omega) (by omega)) (.ren rfl rfl (.ren rfl rfl .nil)) (handW mr) ⟨⟨by decide, nz⟩, Nat.le_of_ble_eq_true rfl⟩ (v := vi (1 + tot m + 4 * (ws.length : Nat))) rfl mT (wrW.trans mRd) ?_
  repeat refine dr_act wN mb ma mc mT mR ?_
  refine dr_nil (h1 _ ?_); clear h1
  have hkk : decide ((1 + (tot m : Nat) + 4 * (ws.length : Nat) : Int) < 0) = false := decide_eq_false (by omega)
  refine ev_weak (σ' := ⟨[(2, vi i), (3, v8 b), (4, .ptr (0, none) 0 0), (5, .ptr (8, none) 0 0), (10, .ptr (288, none) 0 0), (11, .ptr (296, none) 0 0), (12, vb ok), (15, .ptr (464, none) 0 0), (16, .ptr (472, none) 0 0), (17, vb ok), (18, vi (1 + tot m + 4 * (ws.length : Nat)))], [(0, ⟨24, 1, [[eM m]]⟩), (8, ⟨94, 1, [[eWS ws]]⟩), (288, ⟨31, 1, [[.ref (248, none) 0 m'.length]]⟩), (296, ⟨98, 1, [[.ref (249, none) 0 ws'.length]]⟩), (464, ⟨31, 1, [[.ref (424, none) 0 m'.length]]⟩), (472, ⟨98, 1, [[.ref (425, none) 0 ws'.length]]⟩), (248, rM m'), (249, rWS ws'), (424, rM m'), (425, rWS ws')], 1200⟩) (weak_ren [] mK (chkR_cons mK (chkR_cons mK (chkR_cons mK (chkR_cons mK (chkR_cons mK (chkR_cons mK (chkRm rfl (by decide) rfl (fun _ => rfl) (fun a => by first | rfl | simp [okC]) (chkRm rfl (by decide) rfl (fun _ => rfl) (fun a => by first | rfl | simp [okC]) (chkRm rfl (by decide) rfl (fun _ => rfl) (fun a => by first | rfl | simp [okC]) (chkRm rfl (by decide) rfl (fun _ => rfl) (fun a => by first | rfl | simp [okC]) trivial)))))))))) mD mQ) ?_
  refine ev_seq fun K1 h1 => ?_
  refine ev_seq fun K2 h2 => ev_rf mB ?_
  repeat refine dr_act wN mb ma mc mT mR ?_
  rw [hkk]
  iterate 2 refine dr_act wG mb ma mc mT mR ?_
  refine dr_call wG mr mb mx (.cons (.agg (.cons (fM mr rfl) .nil)) (.cons (.agg (.cons (fM mr rfl) .nil)) .nil)) (h61) (Nat.le_of_ble_eq_true rfl) mv mT mN ?_
  iterate 1 refine dr_act wG mb ma mc mT mR ?_
  iterate 2 refine dr_act wN mb ma mc mT mR ?_
  iterate 2 refine dr_act wG mb ma mc mT mR ?_
  refine dr_call wG mr mb mx (.cons (fR mr) (.cons (fR mr) .nil)) (h62) (Nat.le_of_ble_eq_true rfl) mv mT mN ?_
  iterate 1 refine dr_act wG mb ma mc mT mR ?_
  iterate 2 refine dr_act wN mb ma mc mT mR ?_
  iterate 3 refine dr_act wG mb ma mc mT mR ?_
  rw [hoo]
  repeat refine dr_act wN mb ma mc mT mR ?_
  refine dr_nil (h2 _ ?_); clear h2
  refine ev_cond false mlq (fun h => by cases h) (fun h => ev_skip (h1 _ ?_)); clear h1
  refine ev_seq fun K1 h1 => ev_rf mB ?_
  repeat refine dr_act wN mb ma mc mT mR ?_
  refine dr_nil (h1 _ ?_); clear h1
  refine ev_seq fun K1 h1 => ev_rf mB ?_
  repeat refine dr_act wN mb ma mc mT mR ?_
  refine dr_callR [424] [] wN mr mb mx (c63 m' 1 (by omega) (by decide) (by omega)) (.ren rfl rfl (.ren rfl rfl .nil)) (hand1 mr) ⟨⟨by decide, nz⟩, Nat.le_of_ble_eq_true rfl⟩ (v := vi (1 + tot m')) rfl mT (wr1.trans mRd) ?_
  repeat refine dr_act wN mb ma mc mT mR ?_
  refine dr_nil (h1 _ ?_); clear h1
  refine ev_seq fun K1 h1 => ev_rf mB ?_
  repeat refine dr_act wN mb ma mc mT mR ?_
  refine dr_callR [425] [] wN mr mb mx (c64 ws' (1 + tot m') (by omega) (by omega) (by omega)) (.ren rfl rfl (.ren rfl rfl .nil)) (handW mr) ⟨⟨by decide, nz⟩, Nat.le_of_ble_eq_true rfl⟩ (v := vi (1 + tot m' + 4 * (ws'.length : Nat))) rfl mT (wrW.trans mRd) ?_
  repeat refine dr_act wN mb ma mc mT mR ?_
  refine dr_nil (h1 _ ?_); clear h1
  refine ev_seq fun K1 h1 => ev_rf mB ?_
  repeat refine dr_act wN mb ma mc mT mR ?_
  refine dr_nil (h1 _ ?_); clear h1
  refine ev_seq fun K1 h1 => ev_rf mB ?_
  repeat refine dr_act wN mb ma mc mT mR ?_
  refine dr_call wN mr mb mx (.cons (.agg (.cons (fM mr (mkM_length 1 m').symm) .nil)) (.cons (fN rfl) .nil)) (h65) (Nat.le_of_ble_eq_true rfl) mv mT mN ?_
  repeat refine dr_act wN mb ma mc mT mR ?_
  refine dr_nil (h1 _ ?_); clear h1
  refine ev_seq fun K1 h1 => ?_
  refine ev_seq fun K2 h2 => ev_rf mB ?_
  repeat refine dr_act wN mb ma mc mT mR ?_
  refine dr_nil (h2 _ ?_); clear h2
  refine ev_cond _ ml (fun h => absurd (of_decide_eq_true h) (by omega)) (fun h => ev_skip (h1 _ ?_)); clear h1 h
  refine ev_seq fun K1 h1 => ev_rf mB ?_
  repeat refine dr_act wN mb ma mc mT mR ?_
  refine dr_call wN mr mb mx (.cons (.agg (.cons (fWS mr mkW_len.symm) .nil)) (.cons (fN rfl) .nil)) (h66) (Nat.le_of_ble_eq_true rfl) mv mT mN ?_
  repeat refine dr_act wN mb ma mc mT mR ?_
  refine dr_nil (h1 _ ?_); clear h1
  refine ev_seq fun K1 h1 => ?_
  refine ev_seq fun K2 h2 => ev_rf mB ?_
  repeat refine dr_act wN mb ma mc mT mR ?_
  refine dr_nil (h2 _ ?_); clear h2
  refine ev_cond _ ml (fun h => absurd (of_decide_eq_true h) (by omega)) (fun h => ev_skip (h1 _ ?_)); clear h1 h
  refine ev_seq fun K1 h1 => ?_
  refine ev_seq fun K2 h2 => ev_rf mB ?_
  repeat refine dr_act wN mb ma mc mT mR ?_
  refine dr_nil (h2 _ ?_); clear h2
  refine ev_cond _ ml (fun h => by simp at h) (fun h => ev_skip (h1 _ ?_)); clear h1 h
  refine ev_weak (σ' := ⟨[(2, vi i), (3, v8 b), (4, .ptr (0, none) 0 0), (5, .ptr (8, none) 0 0), (10, .ptr (288, none) 0 0), (11, .ptr (296, none) 0 0), (12, vb ok), (15, .ptr (464, none) 0 0), (16, .ptr (472, none) 0 0), (17, vb ok), (19, vi (1 + tot m' + 4 * (ws'.length : Nat)))], [(0, ⟨24, 1, [[eM m]]⟩), (8, ⟨94, 1, [[eWS ws]]⟩), (288, ⟨31, 1, [[.ref (248, none) 0 m'.length]]⟩), (296, ⟨98, 1, [[.ref (249, none) 0 ws'.length]]⟩), (464, ⟨31, 1, [[.ref (424, none) 0 m'.length]]⟩), (472, ⟨98, 1, [[.ref (425, none) 0 ws'.length]]⟩), (248, rM m'), (249, rWS ws'), (424, rM (mkM 1 m')), (425, rWS (mkW (1 + tot m') ws'.length))], 2000⟩) (weak_ren [] mK (chkR_cons mK (chkR_cons mK (chkR_cons mK (chkR_cons mK (chkR_cons mK (chkR_cons mK (chkRm rfl (by decide) rfl (fun _ => rfl) (fun a => by first | rfl | simp [okC]) (chkRm rfl (by decide) rfl (fun _ => rfl) (fun a => by first | rfl | simp [okC]) (chkRm rfl (by decide) rfl (fun _ => rfl) (fun a => by first | rfl | simp [okC]) (chkRm rfl (by decide) rfl (fun _ => rfl) (fun a => by first | rfl | simp [okC]) trivial)))))))))) mD mQ) ?_
  refine ev_seq fun K1 h1 => ev_reg mB ?_
  repeat refine dr_act wN mb ma mc mT mR ?_
  refine dr_callF wN mr mb mx mr (c58 m hm1 hm2) (Nat.le_of_ble_eq_true rfl) mv mT mN ?_
  repeat refine dr_act wN mb ma mc mT mR ?_
  refine dr_callF wN mr mb mx mr (c59 ws hw) (Nat.le_of_ble_eq_true rfl) mv mT mN ?_
  repeat refine dr_act wN mb ma mc mT mR ?_
  refine dr_call wN mr mb mx (.cons (.agg (.cons (fM mr rfl) .nil)) (.cons (fR mr) (.cons (fN rfl) (.cons (fN rfl) .nil)))) (hu60) (Nat.le_of_ble_eq_true rfl) mv mT mN ?_
  repeat refine dr_act wN mb ma mc mT mR ?_
  refine dr_nil ⟨fun _ => by kernel_rfl, h1 _ ?_⟩; clear h1
  refine ev_seq fun K1 h1 => ?_
  refine ev_seq fun K2 h2 => ev_rf mB ?_
  repeat refine dr_act wN mb ma mc mT mR ?_
  refine dr_call wN mr mb mx (.cons (.agg (.cons (fM mr rfl) .nil)) (.cons (.agg (.cons (fM mr rfl) .nil)) .nil)) (h61) (Nat.le_of_ble_eq_true rfl) mv mT mN ?_
  repeat refine dr_act wN mb ma mc mT mR ?_
  iterate 2 refine dr_act wG mb ma mc mT mR ?_
  refine dr_call wG mr mb mx (.cons (fR mr) (.cons (fR mr) .nil)) (h62) (Nat.le_of_ble_eq_true rfl) mv mT mN ?_
  iterate 1 refine dr_act wG mb ma mc mT mR ?_
  iterate 2 refine dr_act wN mb ma mc mT mR ?_
  iterate 3 refine dr_act wG mb ma mc mT mR ?_
  rw [hoo]
  repeat refine dr_act wN mb ma mc mT mR ?_
  refine dr_nil (h2 _ ?_); clear h2
  refine ev_cond false mlq (fun h => by cases h) (fun h => ev_skip (h1 _ ?_)); clear h1
  refine ev_seq fun K1 h1 => ev_rf mB ?_
  repeat refine dr_act wN mb ma mc mT mR ?_
  refine dr_nil (h1 _ ?_); clear h1
  refine ev_seq fun K1 h1 => ev_rf mB ?_
  repeat refine dr_act wN mb ma mc mT mR ?_
  refine dr_call wN mr mb mx (.cons (.agg (.cons (fM mr (mkM_length 1 m').symm) .nil)) (.cons (fN rfl) .nil)) (h65) (Nat.le_of_ble_eq_true rfl) mv mT mN ?_
  repeat refine dr_act wN mb ma mc mT mR ?_
  refine dr_nil (h1 _ ?_); clear h1
  refine ev_seq fun K1 h1 => ?_
  refine ev_seq fun K2 h2 => ev_rf mB ?_
  repeat refine dr_act wN mb ma mc mT mR ?_
  refine dr_nil (h2 _ ?_); clear h2
  refine ev_cond _ ml (fun h => absurd (of_decide_eq_true h) (by omega)) (fun h => ev_skip (h1 _ ?_)); clear h1 h
  refine ev_seq fun K1 h1 => ev_rf mB ?_
  repeat refine dr_act wN mb ma mc mT mR ?_
  refine dr_call wN mr mb mx (.cons (.agg (.cons (fWS mr mkW_len.symm) .nil)) (.cons (fN rfl) .nil)) (h66) (Nat.le_of_ble_eq_true rfl) mv mT mN ?_
  repeat refine dr_act wN mb ma mc mT mR ?_
  refine dr_nil (h1 _ ?_); clear h1
  refine ev_seq fun K1 h1 => ?_
  refine ev_seq fun K2 h2 => ev_rf mB ?_
  repeat refine dr_act wN mb ma mc mT mR ?_
  refine dr_nil (h2 _ ?_); clear h2
  refine ev_cond _ ml (fun h => absurd (of_decide_eq_true h) (by omega)) (fun h => ev_skip (h1 _ ?_)); clear h1 h
  refine ev_seq fun K1 h1 => ?_
  refine ev_seq fun K2 h2 => ev_rf mB ?_
  repeat refine dr_act wN mb ma mc mT mR ?_
  refine dr_nil (h2 _ ?_); clear h2
  refine ev_cond _ ml (fun h => by simp at h) (fun h => ev_skip (h1 _ ?_)); clear h1 h
  refine ev_seq fun K1 h1 => ev_rf mB ?_
  repeat refine dr_act wN mb ma mc mT mR ?_
  refine dr_nil (h1 _ (ev_ret ?_)); clear h1
  exact retT [8] (hv := rfl)
end Go.Ev
namespace Go.Ev
open Go Go.RowKit
variable {P : Program}

abbrev FW (w : World) : Nat → Prop := fun k => k < w.heap.size

/-- What a type's cells read as: k cells, told by a value of α. -/
structure RdT (P : Program) (t k : Nat) {α : Type} (f : α → List V) (ok : α → Prop) : Prop where
  get : ∀ {H : Type} (enc : TypeId × Value → H) (w : World) (base : Nat) (spare : Nat → Bool) (held : Bool) (fuel : Nat) (cs : List Value) (x : DataW H × List MemPlace), DataW.trod enc P w base spare held fuel t cs = some x →
    ∃ a : α, ok a ∧ cs.length = k ∧ (f a).length = k ∧ ∀ (i : Nat) v c, cs[i]? = some v → (f a)[i]? = some c → Rd w (FW w) v c ∧ v.oneCell' = true

theorem one_get {α β : Type} {v u : α} {c d : β} {i : Nat} (h1 : [v][i]? = some u) (h2 : [c][i]? = some d) : u = v ∧ d = c := by
  cases i with
  | zero => simp at h1 h2; exact ⟨h1.symm, h2.symm⟩
  | succ i => simp at h1

theorem rd_int {t : TypeId} {kd : IntKind} (ht : P.underlying t = some (.int kd)) : RdT P t 1 (fun n : Int => [.val (.int kd n)]) (fun n => (Lit.int kd n).wf = true) := by
  refine ⟨?_⟩
  intro H enc w base spare held fuel cs x h
  obtain ⟨n, rfl, _, hw⟩ := DataW.trod_int ht h
  refine ⟨n, hw, rfl, rfl, fun i v c h1 h2 => ?_⟩
  obtain ⟨rfl, rfl⟩ := one_get h1 h2
  exact ⟨.val _, rfl⟩

theorem rd_bool {t : TypeId} (ht : P.underlying t = some .bool) : RdT P t 1 (fun n : Bool => [.val (.bool n)]) (fun _ => True) := by
  refine ⟨?_⟩
  intro H enc w base spare held fuel cs x h
  obtain ⟨n, rfl, _⟩ := DataW.trod_bool ht h
  refine ⟨n, trivial, rfl, rfl, fun i v c h1 h2 => ?_⟩
  obtain ⟨rfl, rfl⟩ := one_get h1 h2
  exact ⟨.val _, rfl⟩

theorem rd_slice {t e : TypeId} {k : Nat} {α : Type} {f : α → List V} {ok : α → Prop} (he : RdT P e k f ok) (hk : 0 < k) (hc : P.cellsOf e = k) (ht : P.underlying t = some (.slice e)) :
    RdT P t 1 (fun l : List α => [.list k (l.map f)]) (fun l => l.length ≤ maxLen ∧ ∀ a, a ∈ l → ok a) := by
  refine ⟨?_⟩
  intro H enc w base spare held fuel cs x h
  rcases DataW.trod_slice ht h with ⟨rfl, _⟩ | ⟨a, len, cap, elems, rest, n, _, rfl, _, hb, hlc, hcm, hel, hel2, _, _⟩
  · refine ⟨[], ⟨Nat.zero_le _, fun a ha => by simp at ha⟩, rfl, rfl, fun i v c h1 h2 => ?_⟩
    obtain ⟨rfl, rfl⟩ := one_get h1 h2
    exact ⟨.list ⟨0, 0, none⟩ (fun _ _ => undef) rfl (Nat.zero_le _) (Nat.le_refl _) (fun x hx => by simp at hx) (fun h => by omega) (fun h => by omega) (fun i x j c hi => by simp at hi) (fun i x j c hi => by simp at hi), rfl⟩
  · rw [hc] at hel2
    have key : ∀ m, m ≤ len → ∃ l : List α, l.length = m ∧ ∀ (i : Nat) b, l[i]? = some b → ok b ∧ (f b).length = k ∧ ∃ cs, w.cells? base (a.add (i * k)) k = some cs ∧ ∀ (j : Nat) v c, cs[j]? = some v → (f b)[j]? = some c → Rd w (FW w) v c ∧ v.oneCell' = true := by
      intro m
      induction m with
      | zero => exact fun _ => ⟨[], rfl, fun i b h => by simp at h⟩
      | succ m ih =>
        intro hm
        obtain ⟨l, h1, h2⟩ := ih (by omega)
        have h3 := hel2 m (by omega)
        have h4 : elems[m]? = some (elems[m]'(by omega)) := List.getElem?_eq_getElem (by omega)
        rw [h4, Option.bind_eq_some_iff] at h3
        obtain ⟨cs, h5, h6⟩ := h3
        obtain ⟨b, k1, k2, k3, k4⟩ := he.get enc w base spare held n cs _ h6
        refine ⟨l ++ [b], by simp [h1], fun i b' hb' => ?_⟩
        rw [List.getElem?_append] at hb'
        split at hb'
        · exact h2 i b' hb'
        · rename_i hge
          have : i = l.length := by
            have := (List.getElem?_eq_some_iff.1 hb').1
            simp only [List.length_cons, List.length_nil] at this
            omega
          subst this
          rw [Nat.sub_self, List.getElem?_cons_zero, Option.some.injEq] at hb'
          subst hb'
          rw [h1]
          exact ⟨k1, k3, cs, h5, k4⟩
    obtain ⟨l, h1, h2⟩ := key len (Nat.le_refl _)
    refine ⟨l, ⟨by omega, fun b hb' => ?_⟩, rfl, rfl, fun i v c e1 e2 => ?_⟩
    · obtain ⟨i, hi⟩ := List.getElem?_of_mem hb'
      exact (h2 i b hi).1
    obtain ⟨rfl, rfl⟩ := one_get e1 e2
    have cell : ∀ (i : Nat) x (j : Nat) c, (l.map f)[i]? = some x → x[j]? = some c → ∃ v, w.cell? (a.add (i * k + j)) = some v ∧ Rd w (FW w) v c ∧ v.oneCell' = true := by
      intro i x j c hi hj
      rw [List.getElem?_map, Option.map_eq_some_iff] at hi
      obtain ⟨b, hb1, rfl⟩ := hi
      obtain ⟨_, k2, cs, k3, k4⟩ := h2 i b hb1
      obtain ⟨_, m1, m2⟩ := World.cells?_some k3
      have hjk : j < k := by rw [← k2]; exact (List.getElem?_eq_some_iff.1 hj).1
      have h5 : cs[j]? = some (cs[j]'(by omega)) := List.getElem?_eq_getElem (by omega)
      have h6 := m2 j hjk
      rw [add_add, h5] at h6
      exact ⟨_, h6, k4 j _ c h5 hj⟩
    refine ⟨.list a (fun i j => (w.cell? (a.add (i * k + j))).getD undef) (by rw [List.length_map]; exact h1) (by omega) hlc (fun x hx => ?_) (fun _ => rfl) (fun hl => ?_) (fun i x j c hi hj => ?_) (fun i x j c hi hj => ?_), rfl⟩
    · obtain ⟨b, hb1, rfl⟩ := List.mem_map.1 hx
      obtain ⟨i, hi⟩ := List.getElem?_of_mem hb1
      exact (h2 i b hi).2.1
    · obtain ⟨b, hb1⟩ : ∃ b, l[0]? = some b := ⟨_, List.getElem?_eq_getElem (by omega)⟩
      obtain ⟨_, _, cs, k3, _⟩ := h2 0 b hb1
      have := World.cells?_block k3 hk
      rw [add_block] at this
      exact this
    · obtain ⟨v, v1, v2, v3⟩ := cell i x j c hi hj
      rw [v1]
      exact ⟨rfl, v3⟩
    · obtain ⟨v, v1, v2, v3⟩ := cell i x j c hi hj
      rw [v1]
      exact v2

/-- Fields, from a place on. -/
structure RdF (P : Program) (fs : List Field) (off k : Nat) {α : Type} (f : α → List V) (ok : α → Prop) : Prop where
  get : ∀ {H : Type} (enc : TypeId × Value → H) (w : World) (base : Nat) (spare : Nat → Bool) (held : Bool) (n : Nat) (cs : List Value), off + k ≤ cs.length → (∀ fld, fld ∈ fs → ∃ y, DataW.trod enc P w base spare held n fld.type ((cs.drop fld.offset).take (P.cellsOf fld.type)) = some y) →
    ∃ a : α, ok a ∧ (f a).length = k ∧ ∀ (i : Nat) v c, cs[off + i]? = some v → (f a)[i]? = some c → Rd w (FW w) v c ∧ v.oneCell' = true

theorem rdF_nil (off : Nat) : RdF P [] off 0 (fun _ : Unit => []) (fun _ => True) :=
  ⟨fun _ _ _ _ _ _ _ _ _ => ⟨(), trivial, rfl, fun i v c _ h => by simp at h⟩⟩

theorem rdF_cons {fld : Field} {fs : List Field} {off kt k : Nat} {α β : Type} {g : β → List V} {okb : β → Prop} {f : α → List V} {ok : α → Prop} (h : RdT P fld.type kt g okb) (ho : fld.offset = off) (hc : P.cellsOf fld.type = kt) (hk : RdF P fs (off + kt) k f ok) :
    RdF P (fld :: fs) off (kt + k) (fun p : β × α => g p.1 ++ f p.2) (fun p => okb p.1 ∧ ok p.2) := by
  refine ⟨?_⟩
  intro H enc w base spare held n cs hl hf
  obtain ⟨y, hy⟩ := hf fld (by simp)
  rw [ho, hc] at hy
  obtain ⟨b, k1, k2, k3, k4⟩ := h.get enc w base spare held n _ _ hy
  obtain ⟨a, m1, m2, m3⟩ := hk.get enc w base spare held n cs (by omega) (fun fld' h' => hf fld' (by simp [h']))
  refine ⟨(b, a), ⟨k1, m1⟩, by show (g b ++ f a).length = _; rw [List.length_append]; omega, fun i v c h1 h2 => ?_⟩
  have h2 : (g b ++ f a)[i]? = some c := h2
  rw [List.getElem?_append] at h2
  split at h2
  · rename_i hi
    refine k4 i v c ?_ h2
    rw [List.getElem?_take, if_pos (by omega), List.getElem?_drop]
    exact h1
  · rename_i hi
    refine m3 (i - kt) v c ?_ (by rw [← k3]; exact h2)
    rw [← h1]
    congr 1
    omega

theorem rd_struct {t k : Nat} {fs : Array Field} {α : Type} {f : α → List V} {ok : α → Prop} (ht : P.underlying t = some (.struct fs)) (hc : P.cellsOf t = k) (h : RdF P fs.toList 0 k f ok) : RdT P t k f ok := by
  refine ⟨?_⟩
  intro H enc w base spare held fuel cs x hx
  obtain ⟨xs, n, _, _, hl, hxs, hi⟩ := DataW.trod_struct ht hx
  obtain ⟨a, k1, k2, k3⟩ := h.get enc w base spare held n cs (by omega) (fun fld hf => by
    obtain ⟨i, h2⟩ := List.getElem?_of_mem hf
    have h2 : fs[i]? = some fld := by rw [← Array.getElem?_toList]; exact h2
    have h3 := hi i fld h2
    have h4 := (Array.getElem?_eq_some_iff.1 h2).1
    rw [List.getElem?_eq_getElem (by omega)] at h3
    exact ⟨_, h3⟩)
  exact ⟨a, k1, by omega, k2, fun i v c h1 h2 => k3 i v c (by rw [Nat.zero_add]; exact h1) h2⟩

theorem RdT.map {t k : Nat} {α β : Type} {f : α → List V} {ok : α → Prop} (h : RdT P t k f ok) (φ : α → β) {g : β → List V} {ok' : β → Prop} (hf : ∀ a, f a = g (φ a)) (ho : ∀ a, ok a → ok' (φ a)) : RdT P t k g ok' := by
  refine ⟨?_⟩
  intro H enc w base spare held fuel cs x hx
  obtain ⟨a, k1, k2, k3, k4⟩ := h.get enc w base spare held fuel cs x hx
  exact ⟨φ a, ho a k1, k2, by rw [← hf]; exact k3, fun i v c h1 h2 => k4 i v c h1 (by rw [hf]; exact h2)⟩

/-- An argument that is a struct. -/
theorem RdT.agg {t k : Nat} {α : Type} {f : α → List V} {ok : α → Prop} (h : RdT P t k f ok) {H : Type} {enc : TypeId × Value → H} {w : World} {base : Nat} {spare : Nat → Bool} {held : Bool} {cs : Array Value} {d : DataW H} {ps : List MemPlace} (hx : DataW.Trod enc P w base spare held t (.agg cs) d ps) :
    ∃ a : α, ok a ∧ Rd w (FW w) (.agg cs) (.agg (f a)) := by
  obtain ⟨fuel, hf⟩ := hx
  obtain ⟨a, k1, k2, k3, k4⟩ := h.get enc w base spare held fuel _ _ hf
  have k2 : cs.toList.length = k := k2
  refine ⟨a, k1, .agg (by rw [k3, ← k2]; simp) (fun i v c h1 h2 => (k4 i v c ?_ h2).1)⟩
  show cs.toList[i]? = some v
  rw [Array.getElem?_toList]; exact h1

/-- An argument of one cell. -/
theorem RdT.one {t : Nat} {α : Type} {f : α → V} {ok : α → Prop} (h : RdT P t 1 (fun a => [f a]) ok) {H : Type} {enc : TypeId × Value → H} {w : World} {base : Nat} {spare : Nat → Bool} {held : Bool} {v : Value} {d : DataW H} {ps : List MemPlace} (hx : DataW.Trod enc P w base spare held t v d ps) (hv : v.cells = #[v]) :
    ∃ a : α, ok a ∧ Rd w (FW w) v (f a) := by
  obtain ⟨fuel, hf⟩ := hx
  rw [hv] at hf
  obtain ⟨a, k1, k2, k3, k4⟩ := h.get enc w base spare held fuel _ _ hf
  exact ⟨a, k1, (k4 0 v _ rfl rfl).1⟩
end Go.Ev
namespace Go.Ev
open Go Go.RowKit Go.Proofs

theorem rd3 : RdT Try.prog 3 1 (fun n : Int => [vi n]) (fun _ => True) := (rd_int Try.underlying3).map id (fun _ => rfl) (fun _ _ => trivial)
theorem rd5 : RdT Try.prog 5 1 cB (fun _ => True) := (rd_int Try.underlying5).map id (fun _ => rfl) (fun _ _ => trivial)
theorem rd29 : RdT Try.prog 29 1 cM (fun l => l.length ≤ maxLen) := (rd_slice rd5 (by decide) (by kernel_rfl) Try.underlying29).map id (fun _ => rfl) (fun _ h => h.1)
theorem rd22 : RdT Try.prog 22 1 (fun m => [eM m]) Len := (rd_slice rd29 (by decide) (by kernel_rfl) Try.underlying22).map id (fun _ => rfl) (fun _ h => h)
theorem rd24 : RdT Try.prog 24 1 (fun m => [eM m]) Len := (rd_struct Try.underlying24 (by kernel_rfl) (rdF_cons rd22 rfl (by kernel_rfl) (rdF_nil _))).map (fun p => p.1) (fun _ => rfl) (fun _ h => h.1)
theorem rd26 : RdT Try.prog 26 4 cW (fun _ => True) := (rd_struct Try.underlying26 (by kernel_rfl) (rdF_cons rd3 rfl (by kernel_rfl) (rdF_cons rd3 rfl (by kernel_rfl) (rdF_cons rd3 rfl (by kernel_rfl) (rdF_cons rd3 rfl (by kernel_rfl) (rdF_nil _)))))).map (fun p => ⟨p.1, p.2.1, p.2.2.1, p.2.2.2.1⟩) (fun _ => rfl) (fun _ _ => trivial)
theorem rd28 : RdT Try.prog 28 7 (fun g : Gp => cG (eM g.m) g) (fun g => Len g.m) := (rd_struct Try.underlying28 (by kernel_rfl) (rdF_cons rd24 rfl (by kernel_rfl) (rdF_cons rd26 rfl (by kernel_rfl) (rdF_cons rd3 rfl (by kernel_rfl) (rdF_cons rd3 rfl (by kernel_rfl) (rdF_nil _)))))).map (fun p => ⟨p.1, p.2.1, p.2.2.1, p.2.2.2.1⟩) (fun _ => rfl) (fun _ h => h.1)
theorem rd45 : RdT Try.prog 45 3 (fun e : Ed => cE (eB e.s) e) (fun e => e.s.length ≤ maxLen) := (rd_struct Try.underlying45 (by kernel_rfl) (rdF_cons rd3 rfl (by kernel_rfl) (rdF_cons rd3 rfl (by kernel_rfl) (rdF_cons rd29 rfl (by kernel_rfl) (rdF_nil _))))).map (fun p => ⟨p.1, p.2.1, p.2.2.1⟩) (fun _ => rfl) (fun _ h => h.2.2.1)
end Go.Ev
namespace Go.Ev
open Go Go.RowKit Go.Proofs
theorem rd92 : RdT Try.prog 92 1 (fun ws => [eWS ws]) (fun ws => ws.length ≤ maxLen) := (rd_slice rd26 (by decide) (by kernel_rfl) Try.underlying92).map id (fun _ => rfl) (fun _ h => h.1)
theorem rd94 : RdT Try.prog 94 1 (fun ws => [eWS ws]) (fun ws => ws.length ≤ maxLen) := (rd_struct Try.underlying94 (by kernel_rfl) (rdF_cons rd92 rfl (by kernel_rfl) (rdF_nil _))).map (fun p => p.1) (fun _ => rfl) (fun _ h => h.1)
end Go.Ev
namespace Go.Proofs.Ytmkcbbbknbahgaa.fnExactWriteRope
open Go.ChangeShapes Go.WideShapes Go.ChangeAt Go.RowKit
open Go.ChangeMaps (shut_string)
theorem own : ownKnob Try.prog.godebug = none := by kernel_rfl
theorem laidOut : laidOutB Try.prog = true := by kernel_rfl
set_option maxRecDepth 100000 in
set_option maxHeartbeats 2000000 in
theorem lifted (os : Os) (started : os.Started) (H : Type) (enc : TypeId × Value → H) :
    ReturnsInHanded {} Try.checked os 10 .any (Rows.fnExactWriteRopeSpec.pre6 enc Try.prog Try.f10 Rows.fnExactWriteRopeRow.domain false) (Rows.fnExactWriteRopeSpec.post enc Try.prog Try.f10 false true false false) := by
  refine returnsInHanded_of_change_sized (C := Try.checked) own started (by kernel_rfl) Try.func10
    (ChangeSpec.witness6 (enc := enc) (C := Try.checked) false ⟨#[], #[.agg #[.slice none 0 0], .agg #[.slice none 0 0], .int .i64 0, .int .u8 0], []⟩ 8 (by kernel_rfl) (by kernel_rfl) (by kernel_rfl) (by kernel_rfl)) ?_
  intro W base args ds gs before hval0 hW hcnd hsz0 _
  have hval : ∀ (j : Nat) t v, Try.f10.params[j]? = some t → args[j]? = some v → Value.okWide Try.prog W .any base t v := hval0
  have hW' := hW
  obtain ⟨p, q, hA0, hV, rfl, hfz, hnd⟩ := hW
  have hA : DataW.TrodAll enc Try.prog W 0 (fun _ => true) true Try.f10.params.toList args.toList ds p := hA0
  rw [Try.params10] at hA hval
  obtain ⟨v0, vs0, d0, ds0, p0, q0, hargs, rfl, rfl, h0, r0⟩ := trodAll_cons hA
  obtain ⟨v1, vs1, d1, ds1, p1, q1, rfl, rfl, rfl, h1, r1⟩ := trodAll_cons r0
  obtain ⟨v2, vs2, d2, ds2, p2, q2, rfl, rfl, rfl, h2, r2⟩ := trodAll_cons r1
  obtain ⟨v3, vs3, d3, ds3, p3, q3, rfl, rfl, rfl, h3, r3⟩ := trodAll_cons r2
  obtain ⟨rfl, rfl, rfl⟩ := trodAll_nil r3
  obtain rfl : args = #[v0, v1, v2, v3] := by cases args; simp_all
  obtain ⟨rfl, rfl⟩ := trodVars_none hV
  obtain ⟨cs0, rfl, _⟩ := okWide_struct Try.underlying24 (hval 0 24 v0 rfl rfl)
  have lt0 : ∀ x ∈ p0, x.block < W.heap.size := by obtain ⟨m, hm⟩ := h0; exact DataW.trod_lt m _ _ _ hm
  obtain ⟨cs1, rfl, _⟩ := okWide_struct Try.underlying94 (hval 1 94 v1 rfl rfl)
  have lt1 : ∀ x ∈ p1, x.block < W.heap.size := by obtain ⟨m, hm⟩ := h1; exact DataW.trod_lt m _ _ _ hm
  have k2 := h2
  obtain ⟨a2, rfl, rfl, rfl, W2⟩ := open_int Try.underlying3 (hval 2 3 v2 rfl rfl) k2
  have k3 := h3
  obtain ⟨a3, rfl, rfl, rfl, W3⟩ := open_int Try.underlying5 (hval 3 5 v3 rfl rfl) k3
  obtain ⟨x0, y0, z0⟩ := Go.Ev.RdT.agg Go.Ev.rd24 h0
  obtain ⟨x1, y1, z1⟩ := Go.Ev.RdT.agg Go.Ev.rd94 h1
  obtain ⟨x2, y2, z2⟩ := Go.Ev.RdT.one Go.Ev.rd3 h2 rfl
  obtain ⟨x3, y3, z3⟩ := Go.Ev.RdT.one Go.Ev.rd5 h3 rfl
  clear hA0 hval0 hsz0
  refine ((Go.Ev.c10 x0 x1 x2 x3 y0 y1).2 W (Go.Ev.FW W) #[.agg cs0, .agg cs1, .int .i64 a2, .int .u8 a3] (fun _ h => h) rfl (fun i v x h1 h2 => ?_)).mono ?_
  · rcases i with _ | _ | _ | _ | i
    · simp at h1 h2; subst h1; subst h2; exact z0
    · simp at h1 h2; subst h1; subst h2; exact z1
    · simp at h1 h2; subst h1; subst h2; exact z2
    · simp at h1 h2; subst h1; subst h2; exact z3
    · simp at h2
  rintro e W' ⟨v', C', rfl, rfl, _, _, hV', bel, _⟩
  obtain rfl := hV'.val_inv
  exact ⟨_, rfl, _, _, _, [], _, [], hW', trodAll_mk1 (shut_bool Try.underlying4 _), (trodAll_cons_mk (Below.trod laidOut (by kernel_rfl) (of_decide_eq_true (by kernel_rfl)) h0 bel lt0) (trodAll_cons_mk (Below.trod laidOut (by kernel_rfl) (of_decide_eq_true (by kernel_rfl)) h1 bel lt1) (trodAll_cons_mk (shut_int Try.underlying3 W2) (trodAll_cons_mk (shut_int Try.underlying5 W3) trodAll_mk0)))), rfl, bel.frame _, fun h => by cases h⟩
theorem cl1 : Try.pinned.checked.prog.funcNamed Rows.fnExactWriteRopeRow.func = some 10 := by kernel_rfl
theorem cl2 : joinedFacts Try.pinned.checked.prog 10 Try.f10 Rows.fnExactWriteRopeSpec Rows.fnExactWriteRopeRow = true := by kernel_rfl
theorem cl3 : Try.f10.isInstance Try.pinned.checked.prog Rows.fnExactWriteRopeRow.origin Rows.fnExactWriteRopeRow.targs := of_decide_eq_true (by kernel_rfl)
theorem cl4 : Try.f10.isWrapper Try.pinned.checked.prog Rows.fnExactWriteRopeRow.wrapper Rows.fnExactWriteRopeRow.mainSum := (by unfold Func.isWrapper; first | (rw [if_pos (by decide +kernel)]; kernel_rfl) | (rw [if_neg (by decide +kernel)]; exact ⟨rfl, rfl⟩))
theorem over : Rows.fnExactWriteRopeRow.holds Try.pinned (OpenSpec.ofChange Rows.fnExactWriteRopeSpec) :=
  OpenClaim.holds_of_wide 10 Try.f10 rfl rfl rfl rfl rfl rfl rfl ⟨rfl, rfl, rfl, rfl, rfl⟩ rfl rfl rfl rfl rfl cl1 Try.func10 cl2 cl3 cl4
    (fun os started H enc _ => lifted os started H enc)
theorem proved : Rows.FnExactWriteRopeSaid := over
#print axioms proved
end Go.Proofs.Ytmkcbbbknbahgaa.fnExactWriteRope
namespace Go.Proofs.Ytmkcbbbknbahgaa
/-- The row, under a short name, for the claim. -/
theorem fnExactWriteRope_holds : Rows.FnExactWriteRopeSaid := fnExactWriteRope.proved
end Go.Proofs.Ytmkcbbbknbahgaa
