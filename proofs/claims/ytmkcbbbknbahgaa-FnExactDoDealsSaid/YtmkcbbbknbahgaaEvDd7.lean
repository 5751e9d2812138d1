/- Part 7 of the proof: the evaluator and the contracts of functions. -/
import Derived.Below
import Derived.ChangeArms
import Derived.ChangeOld
import Derived.DataReads
import Derived.KernelRfl
import Derived.Laws.AppendOwn
import Derived.Laws.BytesArg
import Derived.Laws.BytesString
import Derived.Laws.CopyRow
import Derived.Laws.Entries
import Derived.Laws.IdiomCopy
import Derived.Laws.MakeOwn
import Derived.Laws.OwnMore
import Derived.OpenShut
import Derived.Orders
import Derived.Test.YtmkcbbbknbahgaaProg
import Derived.Test.YtmkcbbbknbahgaaEvDd6
set_option linter.unusedVariables false
set_option linter.unusedSimpArgs false
namespace Go.Ev
open Go Go.RowKit Go.Proofs

/-- A memory with a new array of some bytes, and a rope of it. -/
def newM (m : List (List Int)) (xs : List Int) : Option (List (List Int) × List Win) :=
  if xs.length = 0 then some (m, [])
  else if 64 < xs.length ∨ m.length = 16 then none
  else some (m ++ [xs], [⟨m.length, 0, xs.length, xs.length⟩])

abbrev oMR : Option (List (List Int) × List Win) → V
  | some (m, ws) => .tup [oM 0 m, oR 1 ws, vb true]
  | none => .tup [zM, zR, vb false]
abbrev rMR : Option (List (List Int) × List Win) → List Root
  | some (m, ws) => [rM m, rWS ws]
  | none => []

theorem c116 (m : List (List Int)) (xs : List Int) (hl1 : m.length ≤ 1048576) (hl2 : ∀ r, r ∈ m → r.length ≤ 1048576) (hx : xs.length ≤ 1048576) : Good Try.prog 116 [eMem m, eB xs] (oMR (newM m xs)) (rMR (newM m xs)) := by
  refine good_of (E := En 39) (fn := Try.f116) (by kernel_rfl) (by kernel_rfl) rfl rfl (by simp only [List.length_cons, List.length_nil]; decide) (fun C0 => ?_)
  simp only [argT, Nat.reduceAdd, eB]
  refine ev_seq fun K1 h1 => ev_rf mB ?_
  repeat refine dr_act wN mb ma mc mT mR ?_
  refine dr_nil (h1 _ ?_); clear h1 K1
  refine ev_seq fun K1 h1 => ?_
  refine ev_seq fun K2 h2 => ev_rf mB ?_
  repeat refine dr_act wN mb ma mc mT mR ?_
  refine dr_nil (h2 _ ?_); clear h2
  refine ev_cond _ ml (fun h => ?_) (fun h => ev_skip (h1 _ ?_))
  · have h0 : xs.length = 0 := by have : (xs.length : Int) = 0 := by simpa using h
                                  omega
    have e : newM m xs = some (m, []) := by rw [newM, if_pos h0]
    rw [e]
    refine ev_seq fun K2 h2 => ev_rf mB ?_
    repeat refine dr_act wN mb ma mc mT mR ?_
    refine dr_callF wN mr mb mx mr (c150 m hl1 hl2) (Nat.le_of_ble_eq_true rfl) mv mT mN ?_
    repeat refine dr_act wN mb ma mc mT mR ?_
    refine dr_nil (h2 _ (ev_ret ?_)); clear h2 h1
    exact retL [64, 72] (res' := [.cell 4 31, .cell 5 98, .tmp 6]) mr (.cell nT mZ ma mc mP (.cell nT mZ ma mc mP (.tmp nT mL .nil))) rfl mr (by decide) ⟨⟨mr, okRM⟩, ⟨mr, rfl⟩, trivial⟩
  have h0 : ¬ xs.length = 0 := fun e => by
    have : ¬ (xs.length : Int) = 0 := by simpa using h
    omega
  clear h1 h
  refine ev_seq fun K1 h1 => ?_
  refine ev_seq fun K2 h2 => ev_rf mB ?_
  repeat refine dr_act wN mb ma mc mT mR ?_
  cases hd : decide ((xs.length : Int) > 64)
  rotate_left
  · have hgt := of_decide_eq_true hd
    iterate 4 refine dr_skip wG mT ?_
    repeat refine dr_act wN mb ma mc mT mR ?_
    refine dr_nil (h2 _ ?_); clear h2
    have e : newM m xs = none := by rw [newM, if_neg h0, if_pos (.inl (by omega))]
    rw [e] at h1 ⊢
    refine ev_cond true mlq (fun h => ?_) (fun h => by cases h)
    refine ev_seq fun K2 h2 => ev_rf mB ?_
    repeat refine dr_act wN mb ma mc mT mR ?_
    refine dr_nil (h2 _ (ev_ret ?_)); clear h2 h1
    exact retL [] (res' := [.cell 4 31, .cell 5 98, .tmp 6]) mr (.cell nT mZ ma mc mP (.cell nT mZ ma mc mP (.tmp nT mL .nil))) rfl mr (by decide) trivial
  have hle := of_decide_eq_false hd
  repeat refine dr_act wG mb ma mc mT mR ?_
  repeat refine dr_act wN mb ma mc mT mR ?_
  refine dr_nil (h2 _ ?_); clear h2
  refine ev_cond _ ml (fun h => ?_) (fun h => ev_skip (h1 _ ?_))
  · have hm : (m.length : Int) = 16 := of_decide_eq_true h
    have e : newM m xs = none := by rw [newM, if_neg h0, if_pos (.inr (by omega))]
    rw [e]
    refine ev_seq fun K2 h2 => ev_rf mB ?_
    repeat refine dr_act wN mb ma mc mT mR ?_
    refine dr_nil (h2 _ (ev_ret ?_)); clear h2 h1
    exact retL [] (res' := [.cell 4 31, .cell 5 98, .tmp 6]) mr (.cell nT mZ ma mc mP (.cell nT mZ ma mc mP (.tmp nT mL .nil))) rfl mr (by decide) trivial
  have hm : ¬ (m.length : Int) = 16 := of_decide_eq_false h
  have e : newM m xs = some (m ++ [xs], [⟨m.length, 0, xs.length, xs.length⟩]) := by rw [newM, if_neg h0, if_neg (by omega)]
  clear h1
  rw [e]
  refine ev_seq fun K1 h1 => ev_rf mB ?_
  repeat refine dr_act wN mb ma mc mT mR ?_
  refine dr_callF wN mr mb mx mr (c158 m xs (xs.length : Nat) hl1 hl2 hx) (Nat.le_of_ble_eq_true rfl) mv mT mN ?_
  repeat refine dr_act wN mb ma mc mT mR ?_
  refine dr_nil (h1 _ ?_); clear h1
  refine ev_seq fun K1 h1 => ev_reg mB ?_
  repeat refine dr_act wN mb ma mc mT mR ?_
  refine dr_nil ⟨fun _ => by kernel_rfl, h1 _ (ev_ret ?_)⟩; clear h1
  exact retL [160, 240] (res' := [.cell 4 31, .cell 5 98, .tmp 6]) mr (.cell nT mZ ma mc mP (.cell nT mZ ma mc mP (.tmp nT mL .nil))) rfl mr (by decide) ⟨⟨mr, okRM⟩, ⟨mr, rfl⟩, trivial⟩

/-- A rope with new bytes ahead of a byte. -/
def insR (m : List (List Int)) (ws : List Win) (i : Int) (xs : List Int) : Option (List (List Int) × List Win) :=
  if cutR m ws i = true then
    match newM m xs with
    | none => none
    | some (m', own) => if (splF (lenR ws) i ws 0 ++ own ++ splS (lenR ws) i ws 0).length ≤ 12 then some (m', splF (lenR ws) i ws 0 ++ own ++ splS (lenR ws) i ws 0) else none
  else none

theorem newM_own {m m' : List (List Int)} {xs : List Int} {own : List Win} (h : newM m xs = some (m', own)) : own.length ≤ 1 := by
  unfold newM at h
  split at h
  · simp only [Option.some.injEq, Prod.mk.injEq] at h
    rw [← h.2]; simp
  · split at h
    · cases h
    · simp only [Option.some.injEq, Prod.mk.injEq] at h
      rw [← h.2]; simp

theorem c57 (m : List (List Int)) (ws : List Win) (i : Int) (xs : List Int) (hl1 : m.length ≤ 1048576) (hl2 : ∀ r, r ∈ m → r.length ≤ 1048576) (hw : ws.length ≤ 1048576) (hx : xs.length ≤ 1048576) : Good Try.prog 57 [eMem m, eR ws, vi i, eB xs] (oMR (insR m ws i xs)) (rMR (insR m ws i xs)) := by
  refine good_of (E := En 57) (fn := Try.f57) (by kernel_rfl) (by kernel_rfl) rfl rfl (by simp only [List.length_cons, List.length_nil]; decide) (fun C0 => ?_)
  simp only [argT, Nat.reduceAdd]
  refine ev_seq fun K1 h1 => ev_rf mB ?_
  repeat refine dr_act wN mb ma mc mT mR ?_
  refine dr_nil (h1 _ ?_); clear h1 K1
  refine ev_seq fun K1 h1 => ?_
  refine ev_seq fun K2 h2 => ev_rf mB ?_
  repeat refine dr_act wN mb ma mc mT mR ?_
  refine dr_callF wN mr mb mx mr (c115 m ws i hl1 hl2 hw) (Nat.le_of_ble_eq_true rfl) mv mT mN ?_
  cases hC : cutR m ws i
  · have e : insR m ws i xs = none := by rw [insR, if_neg (by rw [hC]; decide)]
    rw [e] at h1 h2 ⊢
    repeat refine dr_act wN mb ma mc mT mR ?_
    refine dr_nil (h2 _ ?_); clear h2
    refine ev_cond true mlq (fun h => ?_) (fun h => by cases h)
    refine ev_seq fun K2 h2 => ev_rf mB ?_
    repeat refine dr_act wN mb ma mc mT mR ?_
    refine dr_nil (h2 _ (ev_ret ?_)); clear h2 h1
    exact retL [] (res' := [.cell 8 31, .cell 9 98, .tmp 10]) mr (.cell nT mZ ma mc mP (.cell nT mZ ma mc mP (.tmp nT mL .nil))) rfl mr (by decide) trivial
  have hsp := cutR_ok hC
  have hl12 := hsp.l
  have hfl := splF_len (lenR ws) i ws 0
  have hsl := splS_len (lenR ws) i ws 0
  have h117 := c117 ws i hsp
  have h116 := c116 m xs hl1 hl2 hx
  have hins : insR m ws i xs = match newM m xs with
    | none => none
    | some (m', own) => if (splF (lenR ws) i ws 0 ++ own ++ splS (lenR ws) i ws 0).length ≤ 12 then some (m', splF (lenR ws) i ws 0 ++ own ++ splS (lenR ws) i ws 0) else none := by rw [insR, if_pos hC]
  generalize splF (lenR ws) i ws 0 = f at *
  generalize splS (lenR ws) i ws 0 = s at *
  repeat refine dr_act wN mb ma mc mT mR ?_
  refine dr_nil (h2 _ ?_); clear h2
  refine ev_cond false mlq (fun h => by cases h) (fun h => ev_skip (h1 _ ?_)); clear h1
  rcases hnw : newM m xs with _ | ⟨m', own⟩
  · rw [hnw] at h116 hins
    simp only [] at hins
    refine ev_seq fun K1 h1 => ev_rf mB ?_
    repeat refine dr_act wN mb ma mc mT mR ?_
    refine dr_callF wN mr mb mx mr h116 (Nat.le_of_ble_eq_true rfl) mv mT mN ?_
    repeat refine dr_act wN mb ma mc mT mR ?_
    refine dr_nil (h1 _ ?_); clear h1
    refine ev_weak (weak_trans (weak_nil 144 0 0 32 4 mr mr mr rfl (Nat.le_of_ble_eq_true rfl : 176 < 180)) (weak_ren (b' := 1000) (T' := [(2, vi i), (5, .ptr (8, none) 0 0), (8, .ptr (16, none) 0 0), (9, .ptr (24, none) 0 0), (11, .ptr (136, none) 0 0), (12, .ptr (144, none) 0 0), (13, vb false)]) (R' := [(8, ⟨98, 1, [[eWS ws]]⟩), (16, ⟨31, 1, [[.val (.slice none 0 0)]]⟩), (24, ⟨98, 1, [[.val (.slice none 0 0)]]⟩), (136, ⟨31, 1, [[.val (.slice none 0 0)]]⟩), (144, ⟨98, 1, [[.ref (97, none) 0 ([] : List Win).length]]⟩), (97, rWS ([] : List Win))]) [(97, 176)] mK (chkR_cons mK (chkR_cons mK (chkR_cons mK (chkR_cons mK (chkR_cons mK (chkRm rfl (by decide) rfl (fun _ => rfl) (fun a => by simp [okC]) trivial)))))) mD mQ)) ?_
    refine ev_seq fun K1 h1 => ev_rf mB ?_
    repeat refine dr_act wN mb ma mc mT mR ?_
    refine dr_callF wN mr mb mx mr h117 (Nat.le_of_ble_eq_true rfl) mv mT mN ?_
    repeat refine dr_act wN mb ma mc mT mR ?_
    refine dr_nil (h1 _ ?_); clear h1
    by_cases h12 : (f ++ ([] : List Win) ++ s).length ≤ 12
    · rw [hins]
      refine ev_seq fun K1 h1 => ev_reg mB ?_
      repeat refine dr_act wN mb ma mc mT mR ?_
      refine dr_call wN mr mb mx (.cons (fR mr) (.cons (fR mr) .nil)) (c119 f ([] : List Win) (by omega) (by (try simp only [List.length_nil]); omega)) (Nat.le_of_ble_eq_true rfl) mv mT mN ?_
      repeat refine dr_act wN mb ma mc mT mR ?_
      refine dr_call wN mr mb mx (.cons (fR mr) (.cons (fR mr) .nil)) (c119 (f ++ ([] : List Win)) s (by rw [List.length_append]; (try simp only [List.length_nil]); omega) (by omega)) (Nat.le_of_ble_eq_true rfl) mv mT mN ?_
      refine dr_callR [1112] [] wN mr mb mx (c118a (f ++ ([] : List Win) ++ s) (by omega)) (.ren rfl rfl .nil) (handW mr) ⟨⟨by decide, nz⟩, Nat.le_of_ble_eq_true rfl⟩ (v := .tup [oR 1112 (f ++ ([] : List Win) ++ s), vb true]) rfl mT (wrW.trans mRd) ?_
      repeat refine dr_act wN mb ma mc mT mR ?_
      refine dr_nil ⟨fun _ => by kernel_rfl, h1 _ ?_⟩; clear h1
      refine ev_seq fun K1 h1 => ?_
      refine ev_seq fun K2 h2 => ev_rf mB ?_
      repeat refine dr_act wN mb ma mc mT mR ?_
      iterate 2 refine dr_skip wG mT ?_
      repeat refine dr_act wN mb ma mc mT mR ?_
      refine dr_nil (h2 _ ?_); clear h2
      refine ev_cond true mlq (fun h => ?_) (fun h => by cases h)
      refine ev_seq fun K2 h2 => ev_rf mB ?_
      repeat refine dr_act wN mb ma mc mT mR ?_
      refine dr_nil (h2 _ (ev_ret ?_)); clear h2 h1
      exact retL [] (res' := [.cell 8 31, .cell 9 98, .tmp 10]) mr (.cell nT mZ ma mc mP (.cell nT mZ ma mc mP (.tmp nT mL .nil))) rfl mr (by decide) trivial
    · rw [hins]
      refine ev_seq fun K1 h1 => ev_reg mB ?_
      repeat refine dr_act wN mb ma mc mT mR ?_
      refine dr_call wN mr mb mx (.cons (fR mr) (.cons (fR mr) .nil)) (c119 f ([] : List Win) (by omega) (by (try simp only [List.length_nil]); omega)) (Nat.le_of_ble_eq_true rfl) mv mT mN ?_
      repeat refine dr_act wN mb ma mc mT mR ?_
      refine dr_call wN mr mb mx (.cons (fR mr) (.cons (fR mr) .nil)) (c119 (f ++ ([] : List Win)) s (by rw [List.length_append]; (try simp only [List.length_nil]); omega) (by omega)) (Nat.le_of_ble_eq_true rfl) mv mT mN ?_
      refine dr_callR [1112] [] wN mr mb mx (c118b (f ++ ([] : List Win) ++ s) (by omega)) (.ren rfl rfl .nil) (handW mr) ⟨⟨by decide, nz⟩, Nat.le_of_ble_eq_true rfl⟩ (v := .tup [zR, vb false]) rfl mT (wrW.trans mRd) ?_
      repeat refine dr_act wN mb ma mc mT mR ?_
      refine dr_nil ⟨fun _ => by kernel_rfl, h1 _ ?_⟩; clear h1
      refine ev_seq fun K1 h1 => ?_
      refine ev_seq fun K2 h2 => ev_rf mB ?_
      repeat refine dr_act wN mb ma mc mT mR ?_
      iterate 2 refine dr_skip wG mT ?_
      repeat refine dr_act wN mb ma mc mT mR ?_
      refine dr_nil (h2 _ ?_); clear h2
      refine ev_cond true mlq (fun h => ?_) (fun h => by cases h)
      refine ev_seq fun K2 h2 => ev_rf mB ?_
      repeat refine dr_act wN mb ma mc mT mR ?_
      refine dr_nil (h2 _ (ev_ret ?_)); clear h2 h1
      exact retL [] (res' := [.cell 8 31, .cell 9 98, .tmp 10]) mr (.cell nT mZ ma mc mP (.cell nT mZ ma mc mP (.tmp nT mL .nil))) rfl mr (by decide) trivial
  · rw [hnw] at h116 hins
    have hown := newM_own hnw
    simp only [] at hins
    refine ev_seq fun K1 h1 => ev_rf mB ?_
    repeat refine dr_act wN mb ma mc mT mR ?_
    refine dr_callF wN mr mb mx mr h116 (Nat.le_of_ble_eq_true rfl) mv mT mN ?_
    repeat refine dr_act wN mb ma mc mT mR ?_
    refine dr_nil (h1 _ ?_); clear h1
    refine ev_weak (weak_ren (b' := 1000) (T' := [(2, vi i), (5, .ptr (8, none) 0 0), (8, .ptr (16, none) 0 0), (9, .ptr (24, none) 0 0), (11, .ptr (136, none) 0 0), (12, .ptr (144, none) 0 0), (13, vb true)]) (R' := [(8, ⟨98, 1, [[eWS ws]]⟩), (16, ⟨31, 1, [[.val (.slice none 0 0)]]⟩), (24, ⟨98, 1, [[.val (.slice none 0 0)]]⟩), (136, ⟨31, 1, [[.ref (96, none) 0 m'.length]]⟩), (144, ⟨98, 1, [[.ref (97, none) 0 own.length]]⟩), (97, rWS own), (96, rM m')]) [] mK (chkR_cons mK (chkR_cons mK (chkR_cons mK (chkR_cons mK (chkR_cons mK (chkRm rfl (by decide) rfl (fun _ => rfl) (fun a => by simp [okC]) (chkRm rfl (by decide) rfl (fun _ => rfl) (fun a => by simp [okC]) trivial))))))) mD mQ) ?_
    refine ev_seq fun K1 h1 => ev_rf mB ?_
    repeat refine dr_act wN mb ma mc mT mR ?_
    refine dr_callF wN mr mb mx mr h117 (Nat.le_of_ble_eq_true rfl) mv mT mN ?_
    repeat refine dr_act wN mb ma mc mT mR ?_
    refine dr_nil (h1 _ ?_); clear h1
    by_cases h12 : (f ++ own ++ s).length ≤ 12
    · rw [if_pos h12] at hins
      rw [hins]
      refine ev_seq fun K1 h1 => ev_reg mB ?_
      repeat refine dr_act wN mb ma mc mT mR ?_
      refine dr_call wN mr mb mx (.cons (fR mr) (.cons (fR mr) .nil)) (c119 f own (by omega) (by (try simp only [List.length_nil]); omega)) (Nat.le_of_ble_eq_true rfl) mv mT mN ?_
      repeat refine dr_act wN mb ma mc mT mR ?_
      refine dr_call wN mr mb mx (.cons (fR mr) (.cons (fR mr) .nil)) (c119 (f ++ own) s (by rw [List.length_append]; (try simp only [List.length_nil]); omega) (by omega)) (Nat.le_of_ble_eq_true rfl) mv mT mN ?_
      refine dr_callR [1112] [] wN mr mb mx (c118a (f ++ own ++ s) (by omega)) (.ren rfl rfl .nil) (handW mr) ⟨⟨by decide, nz⟩, Nat.le_of_ble_eq_true rfl⟩ (v := .tup [oR 1112 (f ++ own ++ s), vb true]) rfl mT (wrW.trans mRd) ?_
      repeat refine dr_act wN mb ma mc mT mR ?_
      refine dr_nil ⟨fun _ => by kernel_rfl, h1 _ ?_⟩; clear h1
      refine ev_seq fun K1 h1 => ?_
      refine ev_seq fun K2 h2 => ev_rf mB ?_
      repeat refine dr_act wN mb ma mc mT mR ?_
      iterate 2 refine dr_act wG mb ma mc mT mR ?_
      repeat refine dr_act wN mb ma mc mT mR ?_
      refine dr_nil (h2 _ ?_); clear h2
      refine ev_cond false mlq (fun h => by cases h) (fun h => ev_skip (h1 _ ?_)); clear h1
      refine ev_seq fun K1 h1 => ev_reg mB ?_
      repeat refine dr_act wN mb ma mc mT mR ?_
      refine dr_nil ⟨fun _ => by kernel_rfl, h1 _ (ev_ret ?_)⟩; clear h1
      exact retL [96, 1112] (res' := [.cell 8 31, .cell 9 98, .tmp 10]) mr (.cell nT mZ ma mc mP (.cell nT mZ ma mc mP (.tmp nT mL .nil))) rfl mr (by decide) ⟨⟨mr, okRM⟩, ⟨mr, okRW⟩, trivial⟩
    · rw [if_neg h12] at hins
      rw [hins]
      refine ev_seq fun K1 h1 => ev_reg mB ?_
      repeat refine dr_act wN mb ma mc mT mR ?_
      refine dr_call wN mr mb mx (.cons (fR mr) (.cons (fR mr) .nil)) (c119 f own (by omega) (by (try simp only [List.length_nil]); omega)) (Nat.le_of_ble_eq_true rfl) mv mT mN ?_
      repeat refine dr_act wN mb ma mc mT mR ?_
      refine dr_call wN mr mb mx (.cons (fR mr) (.cons (fR mr) .nil)) (c119 (f ++ own) s (by rw [List.length_append]; (try simp only [List.length_nil]); omega) (by omega)) (Nat.le_of_ble_eq_true rfl) mv mT mN ?_
      refine dr_callR [1112] [] wN mr mb mx (c118b (f ++ own ++ s) (by omega)) (.ren rfl rfl .nil) (handW mr) ⟨⟨by decide, nz⟩, Nat.le_of_ble_eq_true rfl⟩ (v := .tup [zR, vb false]) rfl mT (wrW.trans mRd) ?_
      repeat refine dr_act wN mb ma mc mT mR ?_
      refine dr_nil ⟨fun _ => by kernel_rfl, h1 _ ?_⟩; clear h1
      refine ev_seq fun K1 h1 => ?_
      refine ev_seq fun K2 h2 => ev_rf mB ?_
      repeat refine dr_act wN mb ma mc mT mR ?_
      iterate 2 refine dr_act wG mb ma mc mT mR ?_
      repeat refine dr_act wN mb ma mc mT mR ?_
      refine dr_nil (h2 _ ?_); clear h2
      refine ev_cond true mlq (fun h => ?_) (fun h => by cases h)
      refine ev_seq fun K2 h2 => ev_rf mB ?_
      repeat refine dr_act wN mb ma mc mT mR ?_
      refine dr_nil (h2 _ (ev_ret ?_)); clear h2 h1
      exact retL [] (res' := [.cell 8 31, .cell 9 98, .tmp 10]) mr (.cell nT mZ ma mc mP (.cell nT mZ ma mc mP (.tmp nT mL .nil))) rfl mr (by decide) trivial
end Go.Ev
namespace Go.Ev
open Go Go.RowKit Go.Proofs
variable {P : Program}

theorem good_empty {f : FuncId} {sz : Nat} {v : V} {rs : List Root} (h : ∀ a cap, Good P f [.val (.slice a 0 cap)] v rs) : Good P f [.list sz []] v rs := by
  refine ⟨(h none 0).1, fun w F vals hF hl hv => ?_⟩
  have h0 : vals[0]? = some (vals[0]'(by rw [hl]; simp)) := Array.getElem?_eq_getElem _
  have hr := hv 0 _ _ h0 rfl
  generalize vals[0]'(by rw [hl]; simp) = u at h0 hr
  cases hr with
  | list ad g hl' =>
    rename_i a len cap hm hcap hs ha hFb hc hh
    have : len = 0 := hl'.symm
    subst this
    refine (h a cap).2 w F vals hF hl (fun i y x hy hx => ?_)
    cases i with
    | succ i => simp at hx
    | zero =>
      rw [h0] at hy
      cases hy
      simp only [List.getElem?_cons_zero, Option.some.injEq] at hx
      subst hx
      exact .val _

theorem good_nil {f : FuncId} {args : List V} (ty sz : Nat) (h : Good P f args (.val (.slice none 0 0)) []) : Good P f args (.ref (0, none) 0 0) [⟨ty, sz, []⟩] := by
  refine ⟨h.1, fun w F vals hF hl hv => (h.2 w F vals hF hl hv).mono ?_⟩
  rintro e w' ⟨v', C', rfl, rfl, hS, hR, hV, hB, hFn, hO, hA, hN⟩
  obtain rfl := hV.val_inv
  let C2 : Cx := { w := C'.w, F := C'.F, io := fun _ => none, R := fun n => [(⟨ty, sz, []⟩ : Root)][n]?, A := fun n => n < 1 }
  have hg : ∀ p s xs, getP C2.R p = some (s, xs) → xs = [] := by
    intro p s xs hp
    obtain ⟨n, q⟩ := p
    obtain ⟨r, hr⟩ := getP_some hp
    have hr' : [(⟨ty, sz, []⟩ : Root)][n]? = some r := hr
    cases n with
    | succ n => simp at hr'
    | zero =>
      simp only [List.getElem?_cons_zero, Option.some.injEq] at hr'
      subst hr'
      cases q with
      | none =>
        rw [act_of hr] at hp
        simp only [Option.some.injEq, Prod.mk.injEq] at hp
        exact hp.2.symm
      | some ij =>
        obtain ⟨x, k1, _⟩ := getP_row (i := ij.1) (j := ij.2) hr hp
        simp at k1
  refine ⟨_, C2, rfl, rfl, ⟨fun p s xs hp => ?_, fun p q g _ _ h1 => (by cases h1), fun p g _ h1 => (by cases h1), hS.lt, fun n r hr => ?_⟩, rfl, .ref (by show 0 < 1; omega) (fun s xs hp => ?_), hB, hFn, ?_, fun k hk => hk, fun r hr => ?_⟩
  · obtain rfl := hg p s xs hp
    exact ⟨fun x hx => by simp at hx, fun _ => rfl, fun g h => by cases h⟩
  · exact (List.getElem?_eq_some_iff.1 hr).1
  · exact ⟨by omega, Nat.le_refl _, Nat.zero_le _, fun _ => ⟨rfl, rfl⟩, fun g h => by cases h⟩
  · rintro k ⟨p, _, hi⟩
    cases hi
  · simp only [List.mem_singleton] at hr
    subst hr
    rfl

theorem c161n (cap : Nat) : Good Try.prog 161 [.val (.slice none 0 cap)] (.val (.slice none 0 0)) [] := by
  refine good_of (E := En 8) (fn := Try.f161) (by kernel_rfl) (by kernel_rfl) rfl rfl (by simp only [List.length_cons, List.length_nil]; decide) (fun C0 => ?_)
  simp only [argT, Nat.reduceAdd]
  refine ev_seq fun K1 h1 => ev_rf mB ?_
  repeat refine dr_act wN mb ma mc mT mR ?_
  refine dr_nil (h1 _ ?_); clear h1 K1
  refine ev_seq fun K1 h1 => ev_seq fun K2 h2 => ev_rf mB ?_
  repeat refine dr_act wN mb ma mc mT mR ?_
  refine dr_nil (h2 _ ?_); clear h2 K2
  refine ev_cond true ml (fun h => ?_) (fun h => by cases h)
  refine ev_seq fun K2 h2 => ev_rf mB ?_
  repeat refine dr_act wN mb ma mc mT mR ?_
  refine dr_nil (h2 _ (ev_ret ?_)); clear h2 h1
  exact retT [2] (hv := rfl)

theorem c161s (ad : Addr) (cap : Nat) : Good Try.prog 161 [.val (.slice (some ad) 0 cap)] (.ref (0, none) 0 0) [⟨5, 1, []⟩] := by
  refine good_of (E := En 8) (fn := Try.f161) (by kernel_rfl) (by kernel_rfl) rfl rfl (by simp only [List.length_cons, List.length_nil]; decide) (fun C0 => ?_)
  simp only [argT, Nat.reduceAdd]
  refine ev_seq fun K1 h1 => ev_rf mB ?_
  repeat refine dr_act wN mb ma mc mT mR ?_
  refine dr_nil (h1 _ ?_); clear h1 K1
  refine ev_seq fun K1 h1 => ev_seq fun K2 h2 => ev_rf mB ?_
  repeat refine dr_act wN mb ma mc mT mR ?_
  refine dr_nil (h2 _ ?_); clear h2 K2
  refine ev_cond false ml (fun h => by cases h) (fun h => ev_skip (h1 _ ?_)); clear h1 K1
  refine ev_seq fun K2 h2 => ev_rf mB ?_
  repeat refine dr_act wN mb ma mc mT mR ?_
  repeat refine dr_act wN mb ma mc mT mR ?_
  refine dr_nil (h2 _ (ev_ret ?_)); clear h2
  exact retR [24] [2] (hv := rfl) (hR := ⟨⟨rfl, rfl⟩, trivial⟩)

theorem c161l (xs : List Int) (h0 : 0 < xs.length) (hl : xs.length ≤ 1048576) : Good Try.prog 161 [eB xs] (.ref (0, none) 0 xs.length) [⟨5, 1, xs.map cB⟩] := by
  refine good_of (E := En 8) (fn := Try.f161) (by kernel_rfl) (by kernel_rfl) rfl rfl (by simp only [List.length_cons, List.length_nil]; decide) (fun C0 => ?_)
  simp only [argT, Nat.reduceAdd, eB]
  refine ev_seq fun K1 h1 => ev_rf mB ?_
  repeat refine dr_act wN mb ma mc mT mR ?_
  refine dr_nil (h1 _ ?_); clear h1 K1
  refine ev_seq fun K1 h1 => ev_seq fun K2 h2 => ev_rf mB ?_
  repeat refine dr_act wN mb ma mc mT mR ?_
  refine dr_act wN mb ma (by exact h0) mT mR ?_
  refine dr_nil (h2 _ ?_); clear h2 K2
  refine ev_cond _ ml (fun h => by cases h) (fun h => ev_skip (h1 _ ?_)); clear h1 K1
  refine ev_seq fun K2 h2 => ev_rf mB ?_
  repeat refine dr_act wN mb ma mc mT mR ?_
  refine dr_act wN mb ma (by exact ⟨by simp only [maxLen]; omega, by omega⟩) mT mR ?_
  repeat refine dr_act wN mb ma mc mT mR ?_
  refine dr_nil (h2 _ (ev_ret ?_)); clear h2
  exact retR [40] [2] (hv := rfl) (hR := ⟨⟨rfl, pure_map fun _ => rfl⟩, trivial⟩)

theorem c161 (xs : List Int) (hl : xs.length ≤ 1048576) : Good Try.prog 161 [eB xs] (.ref (0, none) 0 xs.length) [⟨5, 1, xs.map cB⟩] := by
  rcases xs with _ | ⟨x, xs⟩
  · refine good_empty fun a cap => ?_
    rcases a with _ | ad
    · exact good_nil 5 1 (c161n cap)
    · exact c161s ad cap
  · exact c161l (x :: xs) (by simp) hl
end Go.Ev
namespace Go.Ev
open Go Go.RowKit Go.Proofs

theorem c127 (m : List (List Int)) (hl : m.length ≤ 1048576) (hr : ∀ r, r ∈ m → r.length ≤ 1048576) : Good Try.prog 127 [eMem m] (oM 0 m) [rM m] := by
  refine good_of (E := En 23) (fn := Try.f127) (by kernel_rfl) (by kernel_rfl) rfl rfl (by simp only [List.length_cons, List.length_nil]; decide) (fun C0 => ?_)
  simp only [argT, eMem, eM]
  iterate 2
    refine ev_seq fun K1 h1 => ev_rf mB ?_
    repeat refine dr_act wN mb ma mc mT mR ?_
    refine dr_nil (h1 _ ?_); clear h1 K1
  refine ev_seq fun K1 h1 => ?_
  refine ev_seq fun K2 h2 => ev_rf mB ?_
  repeat refine dr_act wN mb ma mc mT mR ?_
  refine dr_nil (h2 _ ?_); clear h2 K2
  refine ev_block (ev_loop (α := {i : Nat // i ≤ m.length}) (fun i => ⟨[(2, .ptr (8, none) 0 0), (3, .ptr (24, none) 0 0), (8, .list 1 (m.map cM)), (9, vi m.length), (10, vi i.1)], [(8, ⟨31, 1, [[.val (.slice none 0 0)]]⟩), (24, ⟨31, 1, [[.ref (72, none) 0 i.1]]⟩), (72, ⟨29, 1, (m.take i.1).map cR⟩)], 80⟩) (fun i => m.length - i.1) ⟨0, Nat.zero_le _⟩ (weak_trans (weak_nil 24 0 0 29 1 mr mr mr rfl (Nat.le_of_ble_eq_true rfl : 72 < 80)) (weak_ren [] mK mK mD mQ)) (fun ⟨i, hi⟩ => ?_))
  refine ev_seq fun K2 h2 => ev_rf mB ?_
  repeat refine dr_act wN mb ma mc mT mR ?_
  refine dr_nil (h2 _ ?_); clear h2
  refine ev_seq fun K2 h2 => ?_
  refine ev_cond _ ml (fun h => ev_skip (h2 _ ?_)) (fun h => ev_exit ?_)
  · clear h1 h2
    have hlt : i < m.length := by have := of_decide_eq_true h; omega
    have hri := mem_getD hr hlt
    have hti : (m.take i).length = i := by rw [List.length_take]; omega
    refine ev_seq fun K2 h2 => ev_block (ev_seq fun K3 h3 => ev_rf mB ?_)
    refine dr_ix ([] : List Int) wN mr mb ml ml mS (by omega) mT ?_
    repeat refine dr_act wN mb ma mc mT mR ?_
    refine dr_nil (h3 _ ?_); clear h3
    refine ev_reg mB ?_
    repeat refine dr_act wN mb ma mc mT mR ?_
    refine dr_callF wN mr mb mx mr (c161 (m.getD i []) hri) (Nat.le_of_ble_eq_true rfl) mv mT mN ?_
    refine dr_act wN mb ma (by exact ⟨⟨by decide, by decide, fun x hx => by simp at hx; subst hx; rfl⟩, by simp [notRow], by decide⟩) mT mR ?_
    refine dr_act wN mb ma (by exact ⟨hti.symm, by simp only [maxLen]; omega, by omega⟩) mT mR ?_
    repeat refine dr_act wN mb ma mc mT mR ?_
    refine dr_nil ⟨fun _ => by kernel_rfl, h2 _ (ev_rf mB ?_)⟩; clear h2
    repeat refine dr_act wN mb ma mc mT mR ?_
    refine dr_nil ⟨⟨i + 1, by omega⟩, by simp only []; omega, ?_⟩
    rw [w64p (n := m.length) (by omega) (by omega)]
    refine weak_ren [(72, 152)] mK (chkR_cons mK (chkR_cons mK (chkRm rfl (by decide) ?_ (fun _ => rfl) (fun a => by simp [okC]) trivial))) mD mQ
    rw [← map_take_succ ([] : List Int) hlt]
  · simp only [seqK, loopK, blkK, ↓reduceIte]
    refine h1 _ ?_; clear h1 h2
    have hge := of_decide_eq_false h
    obtain rfl : i = m.length := by omega
    refine ev_seq fun K1 h1 => ev_rf mB ?_
    repeat refine dr_act wN mb ma mc mT mR ?_
    refine dr_nil (h1 _ (ev_ret ?_)); clear h1
    refine retC [72] (hR := ⟨⟨?_, okRM⟩, trivial⟩)
    show some (Root.mk 29 1 ((m.take m.length).map cR)) = _
    rw [List.take_length]

theorem c87 (g : Gp) (hl : g.m.length ≤ 1048576) (hr : ∀ r, r ∈ g.m → r.length ≤ 1048576) : Good Try.prog 87 [eG g] (oG 0 g) [rM g.m] := by
  refine good_of (E := En 8) (fn := Try.f87) (by kernel_rfl) (by kernel_rfl) rfl rfl (by simp only [List.length_cons, List.length_nil]; decide) (fun C0 => ?_)
  simp only [argT, Nat.reduceAdd]
  refine ev_seq fun K1 h1 => ev_rf mB ?_
  repeat refine dr_act wN mb ma mc mT mR ?_
  refine dr_nil (h1 _ ?_); clear h1 K1
  refine ev_seq fun K1 h1 => ev_rf mB ?_
  repeat refine dr_act wN mb ma mc mT mR ?_
  refine dr_callF wN mr mb mx mr (c127 g.m hl hr) (Nat.le_of_ble_eq_true rfl) mv mT mN ?_
  repeat refine dr_act wN mb ma mc mT mR ?_
  refine dr_nil (h1 _ ?_); clear h1
  refine ev_seq fun K1 h1 => ev_rf mB ?_
  repeat refine dr_act wN mb ma mc mT mR ?_
  refine dr_nil (h1 _ (ev_ret ?_)); clear h1
  exact retC [32] (hR := ⟨⟨rfl, okRM⟩, trivial⟩)

theorem okW_eq {m : List (List Int)} {w : Win} : (okM m && hasW m w) = okW m w := by
  rw [Bool.eq_iff_iff]
  simp only [okW, hasW, Bool.and_eq_true, decide_eq_true_eq]
  constructor
  · rintro ⟨h1, ⟨⟨h2, h3⟩, h4⟩, h5⟩
    exact ⟨⟨⟨⟨h1, h2⟩, by omega⟩, by omega⟩, h4⟩
  · rintro ⟨⟨⟨⟨h1, h2⟩, h3⟩, h4⟩, h5⟩
    have := mem_getD (okM_GM h1).r (show w.a.toNat < m.length by omega)
    exact ⟨h1, ⟨⟨h2, by omega⟩, h5⟩, by omega⟩

theorem c86 (g : Gp) (hl1 : g.m.length ≤ 1048576) (hl2 : ∀ r, r ∈ g.m → r.length ≤ 1048576) : Good Try.prog 86 [eG g] (vb (okG g)) [] := by
  refine good_of (E := En 24) (fn := Try.f86) (by kernel_rfl) (by kernel_rfl) rfl rfl (by simp only [List.length_cons, List.length_nil]; decide) (fun C0 => ?_)
  simp only [argT, Nat.reduceAdd]
  have hcs := c146 g.m [g.w] hl1 hl2 (Nat.le_of_ble_eq_true rfl)
  have e : (okM g.m && [g.w].all (hasW g.m)) = okW g.m g.w := by rw [← okW_eq]; simp
  rw [e] at hcs
  refine ev_seq fun K1 h1 => ev_rf mB ?_
  repeat refine dr_act wN mb ma mc mT mR ?_
  refine dr_nil (h1 _ ?_); clear h1 K1
  refine ev_seq fun K1 h1 => ev_rf mB ?_
  repeat refine dr_act wN mb ma mc mT mR ?_
  refine dr_call wN mr mb mx (.cons (fN rfl) (.cons (.cell (.ref (xs := [cW g.w]) (zs := [cW g.w]) mr (cut_all rfl) (norow_noN0 rfl))) .nil)) hcs (Nat.le_of_ble_eq_true rfl) mv mT mN ?_
  repeat refine dr_act wN mb ma mc mT mR ?_
  cases hW : okW g.m g.w
  · iterate 6 refine dr_skip wG mT ?_
    repeat refine dr_act wN mb ma mc mT mR ?_
    iterate 5 refine dr_skip wG mT ?_
    repeat refine dr_act wN mb ma mc mT mR ?_
    refine dr_nil (h1 _ (ev_ret ?_)); clear h1
    exact retT [2] (hv := by rw [okG, hW]; rfl)
  repeat refine dr_act wG mb ma mc mT mR ?_
  refine dr_callF wG mr mb mx mr (c123 g.q 0 g.w.n) (Nat.le_of_ble_eq_true rfl) mv mT mN ?_
  repeat refine dr_act wN mb ma mc mT mR ?_
  cases hQ : decide (0 ≤ g.q ∧ g.q ≤ g.w.n)
  · iterate 5 refine dr_skip wG mT ?_
    repeat refine dr_act wN mb ma mc mT mR ?_
    refine dr_nil (h1 _ (ev_ret ?_)); clear h1
    exact retT [2] (hv := by rw [okG, hW, hQ]; rfl)
  repeat refine dr_act wG mb ma mc mT mR ?_
  refine dr_callF wG mr mb mx mr (c123 g.p 0 g.q) (Nat.le_of_ble_eq_true rfl) mv mT mN ?_
  repeat refine dr_act wN mb ma mc mT mR ?_
  refine dr_nil (h1 _ (ev_ret ?_)); clear h1
  exact retT [2] (hv := by rw [okG, hW, hQ]; rfl)
end Go.Ev
namespace Go.Ev
open Go Go.RowKit Go.Proofs

theorem all_hasW {m : List (List Int)} {ws : List Win} : (okM m && ws.all (hasW m)) = (okM m && ws.all (okW m)) := by
  cases hM : okM m
  · rfl
  · have e : hasW m = okW m := by
      funext w
      have := okW_eq (m := m) (w := w)
      rw [hM, Bool.true_and] at this
      exact this
    rw [e]

theorem c122 (m : List (List Int)) (ws : List Win) (hl1 : m.length ≤ 1048576) (hl2 : ∀ r, r ∈ m → r.length ≤ 1048576) (hw : ws.length ≤ 1048576) : Good Try.prog 122 [eMem m, eR ws] (vb (okR m ws)) [] := by
  refine good_of (E := En 15) (fn := Try.f122) (by kernel_rfl) (by kernel_rfl) rfl rfl (by simp only [List.length_cons, List.length_nil]; decide) (fun C0 => ?_)
  have hcs := c146 m ws hl1 hl2 hw
  rw [all_hasW] at hcs
  simp only [argT, eR, eWS]
  refine ev_seq fun K1 h1 => ev_rf mB ?_
  repeat refine dr_act wN mb ma mc mT mR ?_
  refine dr_nil (h1 _ ?_); clear h1 K1
  refine ev_seq fun K1 h1 => ev_rf mB ?_
  repeat refine dr_act wN mb ma mc mT mR ?_
  refine dr_callF wN mr mb mx mr hcs (Nat.le_of_ble_eq_true rfl) mv mT mN ?_
  repeat refine dr_act wN mb ma mc mT mR ?_
  cases hR : (okM m && ws.all (okW m))
  · iterate 4 refine dr_skip wG mT ?_
    repeat refine dr_act wN mb ma mc mT mR ?_
    refine dr_nil (h1 _ (ev_ret ?_)); clear h1
    exact retT [4] (hv := by rw [okR, hR]; rfl)
  repeat refine dr_act wG mb ma mc mT mR ?_
  repeat refine dr_act wN mb ma mc mT mR ?_
  refine dr_nil (h1 _ (ev_ret ?_)); clear h1
  exact retT [4] (hv := by rw [okR, hR]; rfl)

theorem c124 (ws : List Win) (hw : ws.length ≤ 1048576) (hb : ∀ w, w ∈ ws → 0 ≤ w.n ∧ w.n ≤ 64) : Good Try.prog 124 [eR ws] (vi (lenR ws)) [] := by
  refine good_of (E := En 19) (fn := Try.f124) (by kernel_rfl) (by kernel_rfl) rfl rfl (by simp only [List.length_cons, List.length_nil]; decide) (fun C0 => ?_)
  simp only [argT, eR, eWS]
  iterate 2
    refine ev_seq fun K1 h1 => ev_rf mB ?_
    repeat refine dr_act wN mb ma mc mT mR ?_
    refine dr_nil (h1 _ ?_); clear h1 K1
  refine ev_seq fun K1 h1 => ?_
  refine ev_seq fun K2 h2 => ev_rf mB ?_
  repeat refine dr_act wN mb ma mc mT mR ?_
  refine dr_nil (h2 _ ?_); clear h2 K2
  refine ev_block (ev_loop (α := {i : Nat // i ≤ ws.length}) (fun i => ⟨[(3, vi (lenR (ws.take i.1))), (7, .list 4 (ws.map cW)), (8, vi ws.length), (9, vi i.1)], [], 56⟩) (fun i => ws.length - i.1) ⟨0, Nat.zero_le _⟩ (weak_ren [] mK mK mD mQ) (fun ⟨i, hi⟩ => ?_))
  refine ev_seq fun K2 h2 => ev_rf mB ?_
  repeat refine dr_act wN mb ma mc mT mR ?_
  refine dr_nil (h2 _ ?_); clear h2
  refine ev_seq fun K2 h2 => ?_
  refine ev_cond _ ml (fun h => ev_skip (h2 _ ?_)) (fun h => ev_exit ?_)
  · clear h1 h2
    have hlt : i < ws.length := by have := of_decide_eq_true h; omega
    have h1 := lenR_le (ws.take i) fun w hw => hb w (List.mem_of_mem_take hw)
    rw [List.length_take] at h1
    have h2 := hb _ (mem_w hlt)
    have e1 : IntKind.i64.wrap (lenR (ws.take i) + (ws.getD i wz).n) = lenR (ws.take (i + 1)) := by
      rw [take_w hlt, lenR_app, wrap_of (by omega) (by omega)]; simp only [lenR]; omega
    refine ev_seq fun K2 h2 => ev_block (ev_seq fun K3 h3 => ev_rf mB ?_)
    refine dr_ix (wz : Win) wN mr mb ml ml mS (by omega) mT ?_
    repeat refine dr_act wN mb ma mc mT mR ?_
    refine dr_nil (h3 _ ?_); clear h3
    refine ev_rf mB ?_
    repeat refine dr_act wN mb ma mc mT mR ?_
    rw [Int.toNat_natCast, e1]
    refine dr_nil (h2 _ (ev_rf mB ?_)); clear h2
    repeat refine dr_act wN mb ma mc mT mR ?_
    refine dr_nil ⟨⟨i + 1, by omega⟩, by simp only []; omega, ?_⟩
    rw [w64p (n := ws.length) (by omega) (by omega)]
    exact weak_ren [] mK mK mD mQ
  · simp only [seqK, loopK, blkK, ↓reduceIte]
    refine h1 _ ?_; clear h1 h2
    have hge := of_decide_eq_false h
    obtain rfl : i = ws.length := by omega
    refine ev_seq fun K1 h1 => ev_rf mB ?_
    repeat refine dr_act wN mb ma mc mT mR ?_
    refine dr_nil (h1 _ (ev_ret ?_)); clear h1
    exact retT [2] (hv := by rw [List.take_length]; rfl)

theorem c159 (w : Win) (a b : Int) : Good Try.prog 159 [eW w, vi a, vi b] (eW ⟨w.a, w64 (w.s + a), b, b⟩) [] := by
  refine good_of (E := En 16) (fn := Try.f159) (by kernel_rfl) (by kernel_rfl) rfl rfl (by simp only [List.length_cons, List.length_nil]; decide) (fun C0 => ?_)
  simp only [argT, Nat.reduceAdd]
  iterate 2
    refine ev_seq fun K1 h1 => ev_rf mB ?_
    repeat refine dr_act wN mb ma mc mT mR ?_
    refine dr_nil (h1 _ ?_); clear h1 K1
  refine ev_ret ?_
  exact retC [] (hR := trivial)

def nwM (m : List (List Int)) (n : Int) : Option (List (List Int) × Win) :=
  if okM m = true ∧ (1 ≤ n ∧ n ≤ 64) ∧ ¬ m.length = 16 then some (m ++ [List.replicate n.toNat 0], ⟨m.length, 0, n, n⟩) else none

theorem c128 (m : List (List Int)) (n : Int) (hl1 : m.length ≤ 1048576) (hl2 : ∀ r, r ∈ m → r.length ≤ 1048576) : Good Try.prog 128 [eMem m, vi n] (oMW (nwM m n)) (rMW (nwM m n)) := by
  refine good_of (E := En 40) (fn := Try.f128) (by kernel_rfl) (by kernel_rfl) rfl rfl (by simp only [List.length_cons, List.length_nil]; decide) (fun C0 => ?_)
  simp only [argT, Nat.reduceAdd]
  refine ev_seq fun K1 h1 => ev_rf mB ?_
  repeat refine dr_act wN mb ma mc mT mR ?_
  refine dr_nil (h1 _ ?_); clear h1 K1
  refine ev_seq fun K1 h1 => ?_
  refine ev_seq fun K2 h2 => ev_rf mB ?_
  repeat refine dr_act wN mb ma mc mT mR ?_
  refine dr_callF wN mr mb mx mr (c162 m hl1) (Nat.le_of_ble_eq_true rfl) mv mT mN ?_
  cases hM : okM m
  · have e : nwM m n = none := by rw [nwM, if_neg (fun h => by rw [hM] at h; cases h.1)]
    rw [e] at h1 h2 ⊢
    repeat refine dr_act wN mb ma mc mT mR ?_
    iterate 3 refine dr_skip wG mT ?_
    repeat refine dr_act wN mb ma mc mT mR ?_
    iterate 4 refine dr_skip wG mT ?_
    repeat refine dr_act wN mb ma mc mT mR ?_
    refine dr_nil (h2 _ ?_); clear h2
    refine ev_cond true mlq (fun h => ?_) (fun h => by cases h)
    refine ev_seq fun K2 h2 => ev_rf mB ?_
    repeat refine dr_act wN mb ma mc mT mR ?_
    refine dr_nil (h2 _ (ev_ret ?_)); clear h2 h1
    exact retL [] (res' := [.cell 4 31, .cell 5 32, .tmp 6]) mr (.cell nT mZ ma mc mP (.cell nT mZ ma mc mP (.tmp nT mL .nil))) rfl mr (by decide) trivial
  repeat refine dr_act wN mb ma mc mT mR ?_
  repeat refine dr_act wG mb ma mc mT mR ?_
  refine dr_callF wG mr mb mx mr (c123 n 1 64) (Nat.le_of_ble_eq_true rfl) mv mT mN ?_
  cases hN : decide (1 ≤ n ∧ n ≤ 64)
  · have e : nwM m n = none := by rw [nwM, if_neg (fun h => of_decide_eq_false hN h.2.1)]
    rw [e] at h1 h2 ⊢
    refine dr_act wG mb ma mc mT mR ?_
    repeat refine dr_act wN mb ma mc mT mR ?_
    iterate 4 refine dr_skip wG mT ?_
    repeat refine dr_act wN mb ma mc mT mR ?_
    refine dr_nil (h2 _ ?_); clear h2
    refine ev_cond true mlq (fun h => ?_) (fun h => by cases h)
    refine ev_seq fun K2 h2 => ev_rf mB ?_
    repeat refine dr_act wN mb ma mc mT mR ?_
    refine dr_nil (h2 _ (ev_ret ?_)); clear h2 h1
    exact retL [] (res' := [.cell 4 31, .cell 5 32, .tmp 6]) mr (.cell nT mZ ma mc mP (.cell nT mZ ma mc mP (.tmp nT mL .nil))) rfl mr (by decide) trivial
  have hn := of_decide_eq_true hN
  refine dr_act wG mb ma mc mT mR ?_
  repeat refine dr_act wN mb ma mc mT mR ?_
  repeat refine dr_act wG mb ma mc mT mR ?_
  repeat refine dr_act wN mb ma mc mT mR ?_
  refine dr_nil (h2 _ ?_); clear h2
  refine ev_cond _ ml (fun h => ?_) (fun h => ev_skip (h1 _ ?_))
  · have hm : (m.length : Int) = 16 := of_decide_eq_true h
    have e : nwM m n = none := by rw [nwM, if_neg (fun h => h.2.2 (by omega))]
    rw [e]
    refine ev_seq fun K2 h2 => ev_rf mB ?_
    repeat refine dr_act wN mb ma mc mT mR ?_
    refine dr_nil (h2 _ (ev_ret ?_)); clear h2 h1
    exact retL [] (res' := [.cell 4 31, .cell 5 32, .tmp 6]) mr (.cell nT mZ ma mc mP (.cell nT mZ ma mc mP (.tmp nT mL .nil))) rfl mr (by decide) trivial
  have hm : ¬ (m.length : Int) = 16 := of_decide_eq_false h
  clear h1
  have e : nwM m n = some (m ++ [List.replicate n.toNat 0], ⟨m.length, 0, n, n⟩) := by rw [nwM, if_pos ⟨hM, hn, by omega⟩]
  rw [e]
  refine ev_seq fun K1 h1 => ev_rf mB ?_
  repeat refine dr_act wN mb ma mc mT mR ?_
  refine dr_callF wN mr mb mx mr (c127 m hl1 hl2) (Nat.le_of_ble_eq_true rfl) mv mT mN ?_
  repeat refine dr_act wN mb ma mc mT mR ?_
  refine dr_nil (h1 _ ?_); clear h1
  refine ev_seq fun K1 h1 => ev_reg mB ?_
  repeat refine dr_act wN mb ma mc mT mR ?_
  refine dr_act wN mb ma (by omega) mT mR ?_
  refine dr_act wN mb ma (by exact ⟨⟨by decide, by decide, fun x hx => by simp at hx; subst hx; rfl⟩, ⟨by rw [List.length_replicate], by simp [notRow]⟩, by decide⟩) mT mR ?_
  refine dr_act wN mb ma (by exact ⟨by simp only [maxLen]; omega, by omega⟩) mT mR ?_
  repeat refine dr_act wN mb ma mc mT mR ?_
  refine dr_nil ⟨fun _ => by kernel_rfl, h1 _ ?_⟩; clear h1
  refine ev_seq fun K1 h1 => ev_reg mB ?_
  repeat refine dr_act wN mb ma mc mT mR ?_
  refine dr_nil ⟨fun _ => by kernel_rfl, h1 _ (ev_ret ?_)⟩; clear h1
  refine retL [216] (res' := [.cell 4 31, .cell 5 32, .tmp 6]) mr (.cell nT mZ ma mc mP (.cell nT mZ ma mc mP (.tmp nT mL .nil))) ?_ mr (by decide) ⟨⟨?_, okRM⟩, trivial⟩
  · simp only [oMW, oM, List.length_append, List.length_cons, List.length_nil]; rfl
  · show some (Root.mk 29 1 (m.map cR ++ [[.row 1 _]])) = some (Root.mk 29 1 ((m ++ [List.replicate n.toNat 0]).map cR))
    rw [List.map_append, List.map_cons, List.map_nil, cR, ← rep0]
end Go.Ev
namespace Go.Ev
open Go Go.RowKit
variable {E : Env} {C0 C : Cx}

def preC (n b k : Nat) : V → V
  | .ref (x, none) off len => if x = n then (if off + len ≤ k then .ref (b, none) off len else .any) else .ref (x, none) off len
  | x => x

/-- Only the first elements of a root are known from then on; it bears a new name. -/
theorem weak_pre (n k : Nat) {b b' : Nat} {T T' : List (Nat × V)} {R R' : List (Nat × Root)} {r : Root} (hn : lookR R n = some r)
    (hT : (T.map fun p => (p.1, preC n b k p.2)) = T') (hR : (b, preR r k) :: dropR R n = R') (hb : b < b') : Weak E C0 ⟨T, R, b⟩ ⟨T', R', b'⟩ := by
  subst hT; subst hR
  rintro a w ⟨C, rfl, hC, hCR, hTs, hsz, hd, hF, hA⟩
  have hnb : ¬ C.A b := fun h => by
    rcases hA b h with h1 | ⟨_, h1, _⟩
    · exact absurd h1 (by show ¬ b < b; omega)
    · exact h1
  obtain ⟨C', e1, S1, S2, S3, e2, e3, e4⟩ := pre_ok (b := b) (k := k) hC (by rw [hCR]; exact hn) hnb
  refine ⟨C', e1, S1, ?_, fun t ht => ?_, hsz, hd, hF.next S2 S3, fun y hy => ?_⟩
  · rw [e2, hCR]
    funext y
    show _ = lookR ((b, preR r k) :: dropR R n) y
    simp only [lookR, lookR_drop]
    by_cases c1 : y = b
    · rw [if_pos c1, if_pos c1.symm]
    · rw [if_neg c1, if_neg (Ne.symm c1)]
      by_cases c2 : y = n
      · rw [if_pos (by simp [c2]), if_pos c2]
      · rw [if_neg (by simp [c2]), if_neg c2]
  · show VR C' _ (lookT (T.map fun p => (p.1, preC n b k p.2)) t)
    rw [lookT_map rfl]
    have hv := hTs t ht
    unfold preC
    split
    · rename_i x off len hx
      rw [hx] at hv
      split
      · rename_i e; subst e
        split
        · exact e4 _ _ _ (by assumption) hv
        · exact .fro (.any _)
      · exact hv.ext S2
    · exact hv.ext S2
  · rcases e3 y hy with h | h
    · rcases hA y h with h1 | ⟨_, h1, _⟩
      · exact .inl (Nat.lt_trans h1 hb)
      · exact h1.elim
    · exact .inl (by rw [h]; exact hb)
end Go.Ev
namespace Go.Ev
open Go Go.RowKit Go.Proofs

abbrev vn : V := .val (.slice none 0 0)

theorem c194z : Good Try.prog 194 [vn, vi 0] vn [] := by
  refine good_of (E := En 27) (fn := Try.f194) (by kernel_rfl) (by kernel_rfl) rfl rfl (by simp only [List.length_cons, List.length_nil]; decide) (fun C0 => ?_)
  simp only [argT, Nat.reduceAdd]
  refine ev_seq fun K1 h1 => ev_rf mB ?_
  repeat refine dr_act wN mb ma mc mT mR ?_
  refine dr_nil (h1 _ ?_); clear h1
  refine ev_seq fun K1 h1 => ?_
  refine ev_seq fun K2 h2 => ev_rf mB ?_
  repeat refine dr_act wN mb ma mc mT mR ?_
  refine dr_nil (h2 _ ?_); clear h2
  refine ev_cond _ ml (fun h => by cases h) (fun h => ev_skip (h1 _ ?_)); clear h1
  refine ev_seq fun K0 h0 => ?_
  refine ev_seq fun K1 h1 => ev_rf mB ?_
  repeat refine dr_act wN mb ma mc mT mR ?_
  refine dr_nil (h1 _ ?_); clear h1
  refine ev_seq fun K2 h2 => ev_rf mB ?_
  repeat refine dr_act wN mb ma mc mT mR ?_
  refine dr_nil (h2 _ ?_); clear h2
  refine ev_cond _ ml (fun h => by cases h) (fun h => ev_skip (h0 _ ?_)); clear h0
  refine ev_seq fun K1 h1 => ev_rf mB ?_
  repeat refine dr_act wN mb ma mc mT mR ?_
  refine dr_nil (h1 _ (ev_ret ?_)); clear h1
  exact retL [] (res' := [.tmp 4]) mr (.tmp nT mL .nil) rfl mr (by decide) trivial

theorem c194p (n : Nat) (h0 : 0 < n) (hn : n ≤ 1048576) : Good Try.prog 194 [vn, vi n] (.ref (0, none) 0 0) [⟨32, 4, []⟩] := by
  refine good_of (E := En 27) (fn := Try.f194) (by kernel_rfl) (by kernel_rfl) rfl rfl (by simp only [List.length_cons, List.length_nil]; decide) (fun C0 => ?_)
  have w0 : IntKind.i64.wrap (0 - 0) = 0 := rfl
  have w1 : IntKind.i64.wrap ((n : Int) - IntKind.i64.wrap (0 - 0)) = n := by rw [w0]; exact (wrap_of (by omega) (by omega)).trans (by omega)
  simp only [argT, Nat.reduceAdd]
  refine ev_seq fun K1 h1 => ev_rf mB ?_
  repeat refine dr_act wN mb ma mc mT mR ?_
  refine dr_nil (h1 _ ?_); clear h1
  refine ev_seq fun K1 h1 => ?_
  refine ev_seq fun K2 h2 => ev_rf mB ?_
  repeat refine dr_act wN mb ma mc mT mR ?_
  refine dr_nil (h2 _ ?_); clear h2
  refine ev_cond _ ml (fun h => absurd (of_decide_eq_true h) (by omega)) (fun h => ev_skip (h1 _ ?_)); clear h1 h
  refine ev_seq fun K0 h0' => ?_
  refine ev_seq fun K1 h1 => ev_rf mB ?_
  repeat refine dr_act wN mb ma mc mT mR ?_
  refine dr_nil (h1 _ ?_); clear h1
  refine ev_seq fun K2 h2 => ev_rf mB ?_
  repeat refine dr_act wN mb ma mc mT mR ?_
  refine dr_nil (h2 _ ?_); clear h2
  refine ev_cond _ ml (fun h => ?_) (fun h => absurd (of_decide_eq_false h) (by rw [w1]; omega))
  rw [w1]
  refine ev_rf mB ?_
  iterate 5 refine dr_act wN mb ma mc mT mR ?_
  refine dr_act wN mb ma (by exact ⟨by omega, by omega, by omega⟩) mT mR ?_
  repeat refine dr_act wN mb ma mc mT mR ?_
  refine dr_nil (h0' _ ?_); clear h0'
  refine ev_weak (weak_pre 144 0 mr mr mr (b' := 192) (by decide)) ?_
  refine ev_seq fun K1 h1 => ev_rf mB ?_
  repeat refine dr_act wN mb ma mc mT mR ?_
  refine dr_nil (h1 _ (ev_ret ?_)); clear h1
  exact retL [184] (res' := [.tmp 4]) mr (.tmp nT mL .nil) rfl mr (by decide) ⟨⟨mr, rfl⟩, trivial⟩

theorem c194 (n : Nat) (hn : n ≤ 1048576) : Good Try.prog 194 [vn, vi n] (.ref (0, none) 0 0) [⟨32, 4, []⟩] := by
  by_cases h0 : n = 0
  · subst h0
    exact good_nilX c194z fun C u he hu => empty_ref hu
  · exact c194p n (by omega) hn

abbrev cWS (ws : List Win) : List V := [eWS ws]
abbrev eWSS (wss : List (List Win)) : V := .list 1 (wss.map cWS)

theorem take_ws {wss : List (List Win)} {i : Nat} (h : i < wss.length) : (wss.take (i + 1)).flatten = (wss.take i).flatten ++ wss.getD i [] := by
  rw [List.take_succ_eq_append_getElem h, List.getD_eq_getElem?_getD, List.getElem?_eq_getElem h, List.flatten_append]; simp
theorem take_wl (wss : List (List Win)) (i : Nat) : (wss.take i).flatten.length ≤ wss.flatten.length := by
  have : wss.flatten = (wss.take i).flatten ++ (wss.drop i).flatten := by rw [← List.flatten_append, List.take_append_drop]
  rw [this, List.length_append]; omega

theorem c160 (wss : List (List Win)) (hl : wss.length ≤ 1048576) (hw : wss.flatten.length ≤ 1048576) : Good Try.prog 160 [eWSS wss] (.ref (0, none) 0 wss.flatten.length) [rWS wss.flatten] := by
  refine good_of (E := En 36) (fn := Try.f160) (by kernel_rfl) (by kernel_rfl) rfl rfl (by simp only [List.length_cons, List.length_nil]; decide) (fun C0 => ?_)
  simp only [argT, Nat.reduceAdd]
  iterate 2
    refine ev_seq fun K1 h1 => ev_rf mB ?_
    repeat refine dr_act wN mb ma mc mT mR ?_
    refine dr_nil (h1 _ ?_); clear h1 K1
  refine ev_seq fun K1 h1 => ?_
  refine ev_seq fun K2 h2 => ev_rf mB ?_
  repeat refine dr_act wN mb ma mc mT mR ?_
  refine dr_nil (h2 _ ?_); clear h2 K2
  refine ev_block (ev_loop (α := {i : Nat // i ≤ wss.length}) (fun i => ⟨[(0, eWSS wss), (3, vi ((wss.take i.1).flatten.length : Nat)), (9, eWSS wss), (10, vi wss.length), (11, vi i.1)], [], 32⟩) (fun i => wss.length - i.1) ⟨0, Nat.zero_le _⟩ (weak_ren [] mK mK mD mQ) (fun ⟨i, hi⟩ => ?_))
  refine ev_seq fun K2 h2 => ev_rf mB ?_
  repeat refine dr_act wN mb ma mc mT mR ?_
  refine dr_nil (h2 _ ?_); clear h2
  refine ev_seq fun K2 h2 => ?_
  refine ev_cond _ ml (fun h => ev_skip (h2 _ ?_)) (fun h => ev_exit ?_)
  · clear h1 h2
    have hlt : i < wss.length := by have := of_decide_eq_true h; omega
    have t1 := take_wl wss i
    have t2 := take_wl wss (i + 1)
    have t3 := take_ws hlt
    have t4 : (wss.take (i + 1)).flatten.length = (wss.take i).flatten.length + (wss.getD i []).length := by rw [t3, List.length_append]
    have e1 : IntKind.i64.wrap (((wss.take i).flatten.length : Nat) + ((wss.getD i []).length : Nat)) = ((wss.take (i + 1)).flatten.length : Nat) := by
      rw [wrap_of (by omega) (by omega)]; omega
    refine ev_seq fun K2 h2 => ev_block (ev_seq fun K3 h3 => ev_rf mB ?_)
    refine dr_ix ([] : List Win) wN mr mb ml ml mS (by omega) mT ?_
    repeat refine dr_act wN mb ma mc mT mR ?_
    refine dr_nil (h3 _ ?_); clear h3
    refine ev_seq fun K3 h3 => ev_rf mB ?_
    repeat refine dr_act wN mb ma mc mT mR ?_
    rw [Int.toNat_natCast, List.length_map, e1]
    refine dr_nil (h3 _ ?_); clear h3
    refine ev_seq fun K3 h3 => ev_rf mB ?_
    repeat refine dr_act wN mb ma mc mT mR ?_
    refine dr_nil (h3 _ ?_); clear h3
    refine ev_cond _ ml (fun h => absurd (of_decide_eq_true h) (by omega)) (fun h => ev_skip (h2 _ ?_)); clear h2
    refine ev_rf mB ?_
    repeat refine dr_act wN mb ma mc mT mR ?_
    refine dr_nil ⟨⟨i + 1, by omega⟩, by simp only []; omega, ?_⟩
    rw [w64p (n := wss.length) (by omega) (by omega)]
    exact weak_ren [] mK mK mD mQ
  · simp only [seqK, loopK, blkK, ↓reduceIte]
    refine h1 _ ?_; clear h1 h2
    have hge := of_decide_eq_false h
    obtain rfl : i = wss.length := by omega
    rw [List.take_length]
    refine ev_seq fun K1 h1 => ev_rf mB ?_
    repeat refine dr_act wN mb ma mc mT mR ?_
    refine dr_callF wN mr mb mx mr (c194 wss.flatten.length hw) (Nat.le_of_ble_eq_true rfl) mv mT mN ?_
    repeat refine dr_act wN mb ma mc mT mR ?_
    refine dr_nil (h1 _ ?_); clear h1 K1
    refine ev_seq fun K1 h1 => ?_
    refine ev_seq fun K2 h2 => ev_rf mB ?_
    repeat refine dr_act wN mb ma mc mT mR ?_
    refine dr_nil (h2 _ ?_); clear h2 K2
    refine ev_block (ev_loop (α := {i : Nat // i ≤ wss.length}) (fun i => ⟨[(6, .ref (48, none) 0 (wss.take i.1).flatten.length), (25, eWSS wss), (26, vi wss.length), (27, vi i.1)], [(48, rWS (wss.take i.1).flatten)], 104⟩) (fun i => wss.length - i.1) ⟨0, Nat.zero_le _⟩ (weak_ren [] mK (chkRm rfl (by decide) rfl (fun _ => rfl) (fun _ => rfl) trivial) mD mQ) (fun ⟨i, hi⟩ => ?_))
    refine ev_seq fun K2 h2 => ev_rf mB ?_
    repeat refine dr_act wN mb ma mc mT mR ?_
    refine dr_nil (h2 _ ?_); clear h2
    refine ev_seq fun K2 h2 => ?_
    refine ev_cond _ ml (fun h => ev_skip (h2 _ ?_)) (fun h => ev_exit ?_)
    · clear h1 h2
      have hlt : i < wss.length := by have := of_decide_eq_true h; omega
      have t1 := take_wl wss i
      have t2 := take_wl wss (i + 1)
      have t3 := take_ws hlt
      have t4 : (wss.take (i + 1)).flatten.length = (wss.take i).flatten.length + (wss.getD i []).length := by rw [t3, List.length_append]
      refine ev_seq fun K2 h2 => ev_block (ev_seq fun K3 h3 => ev_rf mB ?_)
      refine dr_ix ([] : List Win) wN mr mb ml ml mS (by omega) mT ?_
      repeat refine dr_act wN mb ma mc mT mR ?_
      refine dr_nil (h3 _ ?_); clear h3
      refine ev_rf mB ?_
      repeat refine dr_act wN mb ma mc mT mR ?_
      refine dr_act wN mb ma (by exact ⟨⟨rfl, rfl, rfl, (List.length_map _).symm⟩, by simp only [maxLen, List.length_map]; omega, trivial⟩) mT mR ?_
      repeat refine dr_act wN mb ma mc mT mR ?_
      refine dr_nil (h2 _ (ev_rf mB ?_)); clear h2
      repeat refine dr_act wN mb ma mc mT mR ?_
      refine dr_nil ⟨⟨i + 1, by omega⟩, by simp only []; omega, ?_⟩
      rw [w64p (n := wss.length) (by omega) (by omega), List.map_nil, List.nil_append]
      refine weak_ren [(48, 152)] ⟨⟨by rw [t4]; rfl, rfl⟩, mK⟩ (chkRm rfl (by decide) (by simp only []; rw [t3, List.map_append]) (fun _ => rfl) (fun _ => rfl) trivial) mD mQ
    · simp only [seqK, loopK, blkK, ↓reduceIte]
      refine h1 _ ?_; clear h1 h2
      have hge := of_decide_eq_false h
      obtain rfl : i = wss.length := by omega
      rw [List.take_length]
      refine ev_seq fun K1 h1 => ev_rf mB ?_
      repeat refine dr_act wN mb ma mc mT mR ?_
      refine dr_nil (h1 _ (ev_ret ?_)); clear h1
      exact retL [48] (res' := [.tmp 2]) mr (.tmp nT mL .nil) rfl mr (by decide) ⟨⟨mr, pure_map fun _ => rfl⟩, trivial⟩
end Go.Ev
namespace Go.Ev
open Go Go.RowKit Go.Proofs

abbrev oJ : Option (List Win) → V
  | some ws => .tup [oR 0 ws, vb true]
  | none => .tup [zR, vb false]
abbrev rJ : Option (List Win) → List Root
  | some ws => [rWS ws]
  | none => []
def jnd (wss : List (List Win)) : Option (List Win) := if wss.flatten.length ≤ 12 then some wss.flatten else none

theorem c126 (wss : List (List Win)) (hl : wss.length ≤ 1048576) (hw : wss.flatten.length ≤ 1048576) : Good Try.prog 126 [eWSS wss] (oJ (jnd wss)) (rJ (jnd wss)) := by
  refine good_of (E := En 13) (fn := Try.f126) (by kernel_rfl) (by kernel_rfl) rfl rfl (by simp only [List.length_cons, List.length_nil]; decide) (fun C0 => ?_)
  simp only [argT, Nat.reduceAdd]
  refine ev_seq fun K1 h1 => ev_rf mB ?_
  repeat refine dr_act wN mb ma mc mT mR ?_
  refine dr_nil (h1 _ ?_); clear h1
  refine ev_seq fun K1 h1 => ev_rf mB ?_
  repeat refine dr_act wN mb ma mc mT mR ?_
  refine dr_callF wN mr mb mx mr (c160 wss hl hw) (Nat.le_of_ble_eq_true rfl) mv mT mN ?_
  repeat refine dr_act wN mb ma mc mT mR ?_
  refine dr_nil (h1 _ ?_); clear h1
  refine ev_seq fun K1 h1 => ?_
  refine ev_seq fun K2 h2 => ev_rf mB ?_
  repeat refine dr_act wN mb ma mc mT mR ?_
  refine dr_nil (h2 _ ?_); clear h2
  refine ev_cond _ ml (fun h => ?_) (fun h => ev_skip (h1 _ ?_))
  · have e : jnd wss = none := by rw [jnd, if_neg (by have := of_decide_eq_true h; omega)]
    rw [e]
    refine ev_seq fun K2 h2 => ev_rf mB ?_
    repeat refine dr_act wN mb ma mc mT mR ?_
    refine dr_nil (h2 _ (ev_ret ?_)); clear h2 h1
    exact retL [] (res' := [.cell 2 98, .tmp 3]) mr (.cell nT mZ ma mc mP (.tmp nT mL .nil)) rfl mr (by decide) trivial
  have e : jnd wss = some wss.flatten := by rw [jnd, if_pos (by have := of_decide_eq_false h; omega)]
  clear h1 h
  rw [e]
  refine ev_seq fun K2 h2 => ev_rf mB ?_
  repeat refine dr_act wN mb ma mc mT mR ?_
  refine dr_nil (h2 _ (ev_ret ?_)); clear h2
  exact retL [24] (res' := [.cell 2 98, .tmp 3]) mr (.cell nT mZ ma mc mP (.tmp nT mL .nil)) rfl mr (by decide) ⟨⟨mr, pure_map fun _ => rfl⟩, trivial⟩

theorem lenR_take {ws : List Win} {k : Nat} (h : ∀ w, w ∈ ws → 0 ≤ w.n ∧ w.n ≤ 64) : lenR (ws.take k) ≤ lenR ws := by
  have e : lenR ws = lenR (ws.take k) + lenR (ws.drop k) := by rw [← lenR_app, List.take_append_drop]
  have := lenR_le (ws.drop k) fun w hw => h w (List.mem_of_mem_drop hw)
  omega

theorem c125 (ws : List Win) (i : Int) (h : SplOK ws i) : Good Try.prog 125 [eR ws, vi i] (.tup [.ref (0, none) 0 (splF (lenR ws) i ws 0).length, .ref (1, none) 0 (splS (lenR ws) i ws 0).length]) [rWS (splF (lenR ws) i ws 0), rWS (splS (lenR ws) i ws 0)] := by
  refine good_of (E := En 89) (fn := Try.f125) (by kernel_rfl) (by kernel_rfl) rfl rfl (by simp only [List.length_cons, List.length_nil]; decide) (fun C0 => ?_)
  have hl := h.l
  have hi0 := h.i.1
  have hi1 := h.i.2
  have hL := lenR_le ws h.b
  simp only [argT, eR, eWS]
  iterate 2
    refine ev_seq fun K1 h1 => ev_rf mB ?_
    repeat refine dr_act wN mb ma mc mT mR ?_
    refine dr_nil (h1 _ ?_); clear h1 K1
  refine ev_seq fun K1 h1 => ?_
  refine ev_seq fun K2 h2 => ev_rf mB ?_
  repeat refine dr_act wN mb ma mc mT mR ?_
  refine dr_nil (h2 _ ?_); clear h2 K2
  refine ev_block (ev_loop (α := {k : Nat // k ≤ ws.length}) (fun k => ⟨[(1, vi i), (2, .ptr (0, none) 0 0), (6, .ref (24, none) 0 (splF (lenR ws) i (ws.take k.1) 0).length), (7, .ref (32, none) 0 (splS (lenR ws) i (ws.take k.1) 0).length), (8, vi (lenR (ws.take k.1))), (15, .list 4 (ws.map cW)), (16, vi ws.length), (17, vi k.1)], [(0, ⟨98, 1, [[.list 4 (ws.map cW)]]⟩), (24, rWS (splF (lenR ws) i (ws.take k.1) 0)), (32, rWS (splS (lenR ws) i (ws.take k.1) 0))], 96⟩) (fun k => ws.length - k.1) ⟨0, Nat.zero_le _⟩ (weak_ren [] mK (chkR_cons mK (chkRm rfl (by decide) rfl (fun _ => rfl) (fun _ => rfl) (chkRm rfl (by decide) rfl (fun _ => rfl) (fun _ => rfl) trivial))) mD mQ) (fun ⟨k, hk⟩ => ?_))
  refine ev_seq fun K2 h2 => ev_rf mB ?_
  repeat refine dr_act wN mb ma mc mT mR ?_
  refine dr_nil (h2 _ ?_); clear h2
  refine ev_seq fun K2 h2 => ?_
  refine ev_cond _ ml (fun hc => ev_skip (h2 _ ?_)) (fun hc => ev_exit ?_)
  · clear h1 h2
    have hlt : k < ws.length := by have := of_decide_eq_true hc; omega
    have hf1 := splF_len (lenR ws) i (ws.take k) 0
    have hs1 := splS_len (lenR ws) i (ws.take k) 0
    have hd := lenR_le (ws.take k) fun w hw => h.b w (List.mem_of_mem_take hw)
    rw [List.length_take] at hf1 hs1 hd
    have hsf := splF_step (L := lenR ws) (i := i) hlt
    have hss := splS_step (L := lenR ws) (i := i) hlt
    have hld := lenR_step hlt
    have hle := lenR_take (k := k + 1) h.b
    have hw := h.n _ (mem_w hlt)
    have c124' := c124 ws (by omega) h.b
    generalize hfe : splF (lenR ws) i (ws.take k) 0 = f at *
    generalize hse : splS (lenR ws) i (ws.take k) 0 = s at *
    generalize hde : lenR (ws.take k) = d at *
    have w1 : IntKind.i64.wrap (d + (ws.getD k wz).n) = d + (ws.getD k wz).n := wrap_of (by omega) (by omega)
    have v1 : IntKind.i64.wrap (i - d) = i - d := wrap_of (by omega) (by omega)
    generalize hwe : ws.getD k wz = w at *
    refine ev_seq fun K2 h2 => ev_block ?_
    refine ev_seq fun K3 h3 => ev_rf mB ?_
    refine dr_ix (wz : Win) wN mr mb ml ml mS (by omega) mT ?_
    rw [Int.toNat_natCast, hwe]
    repeat refine dr_act wN mb ma mc mT mR ?_
    refine dr_nil (h3 _ ?_); clear h3
    refine ev_seq fun K3 h3 => ev_rf mB ?_
    repeat refine dr_act wN mb ma mc mT mR ?_
    rw [v1]
    refine dr_nil (h3 _ ?_); clear h3
    refine ev_cut ⟨[(1, vi i), (2, .ptr (0, none) 0 0), (6, .ref (24, none) 0 (f ++ toF (lenR ws) i d w).length), (7, .ref (32, none) 0 (s ++ toS (lenR ws) i d w).length), (8, vi d), (10, .ptr (120, none) 0 0), (15, .list 4 (ws.map cW)), (16, vi ws.length), (17, vi k)], [(0, ⟨98, 1, [[.list 4 (ws.map cW)]]⟩), (120, ⟨32, 4, [cW w]⟩), (24, rWS (f ++ toF (lenR ws) i d w)), (32, rWS (s ++ toS (lenR ws) i d w))], 3000⟩ (ev_block ?_) ?_
    · refine ev_cut ⟨[(1, vi i), (2, .ptr (0, none) 0 0), (6, .ref (24, none) 0 f.length), (7, .ref (32, none) 0 s.length), (8, vi d), (10, .ptr (120, none) 0 0), (11, vi (i - d)), (15, .list 4 (ws.map cW)), (16, vi ws.length), (17, vi k), (48, vb (decide (d + w.n ≤ i ∧ (w.n > 0 ∨ d < i ∨ i = lenR ws))))], [(0, ⟨98, 1, [[.list 4 (ws.map cW)]]⟩), (120, ⟨32, 4, [cW w]⟩), (24, rWS f), (32, rWS s)], 2000⟩ ?_ ?_
      · refine ev_cut ⟨[(1, vi i), (2, .ptr (0, none) 0 0), (6, .ref (24, none) 0 f.length), (7, .ref (32, none) 0 s.length), (8, vi d), (10, .ptr (120, none) 0 0), (11, vi (i - d)), (15, .list 4 (ws.map cW)), (16, vi ws.length), (17, vi k), (48, vb (decide (w.n = 0 ∧ (i - d > 0 ∨ i = lenR ws))))], [(0, ⟨98, 1, [[.list 4 (ws.map cW)]]⟩), (120, ⟨32, 4, [cW w]⟩), (24, rWS f), (32, rWS s)], 1000⟩ (ev_rf mB ?_) ?_
        · iterate 4 refine dr_act wN mb ma mc mT mR ?_
          cases hA : w.n == 0
          · iterate 3 refine dr_skip wG mT ?_
            iterate 4 refine dr_skip wU mT ?_
            refine dr_skip wG mT ?_
            repeat refine dr_act wN mb ma mc mT mR ?_
            rw [decide_eq_false fun h => by rw [h.1] at hA; cases hA]
            exact dr_nil (weak_ren [] mK (chkR_cons mK (chkR_cons mK (chkRm rfl (by decide) rfl (fun _ => rfl) (fun _ => rfl) (chkRm rfl (by decide) rfl (fun _ => rfl) (fun _ => rfl) trivial)))) mD mQ)
          have hA' := eq_of_beq hA
          iterate 3 refine dr_act wG mb ma mc mT mR ?_
          cases hB : decide (i - d > 0)
          · have hB' := of_decide_eq_false hB
            iterate 2 refine dr_act wG mb ma mc mT mR ?_
            refine dr_callF wG mr mb mx mr c124' (Nat.le_of_ble_eq_true rfl) mv mT mN ?_
            iterate 2 refine dr_act wG mb ma mc mT mR ?_
            repeat refine dr_act wN mb ma mc mT mR ?_
            have e : (i == lenR ws) = decide (w.n = 0 ∧ (i - d > 0 ∨ i = lenR ws)) := by
              rw [Bool.eq_iff_iff, beq_iff_eq, decide_eq_true_eq]
              exact ⟨fun h => ⟨hA', .inr h⟩, fun h => h.2.elim (fun h => absurd h hB') id⟩
            rw [e]
            exact dr_nil (weak_ren [] mK (chkR_cons mK (chkR_cons mK (chkRm rfl (by decide) rfl (fun _ => rfl) (fun _ => rfl) (chkRm rfl (by decide) rfl (fun _ => rfl) (fun _ => rfl) trivial)))) mD mQ)
          have hB' := of_decide_eq_true hB
          iterate 4 refine dr_skip wG mT ?_
          refine dr_act wG mb ma mc mT mR ?_
          repeat refine dr_act wN mb ma mc mT mR ?_
          rw [decide_eq_true ⟨hA', .inl hB'⟩]
          exact dr_nil (weak_ren [] mK (chkR_cons mK (chkR_cons mK (chkRm rfl (by decide) rfl (fun _ => rfl) (fun _ => rfl) (chkRm rfl (by decide) rfl (fun _ => rfl) (fun _ => rfl) trivial)))) mD mQ)
        · refine ev_cond _ ml (fun hA => ev_skip ?_) (fun hA => ev_rf mB ?_)
          · have hA' := of_decide_eq_true hA
            show Weak (En 89) C0 _ _
            rw [decide_eq_true hA', decide_eq_true (show d + w.n ≤ i ∧ (w.n > 0 ∨ d < i ∨ i = lenR ws) by omega)]
            exact weak_ren [] mK (chkR_cons mK (chkR_cons mK (chkRm rfl (by decide) rfl (fun _ => rfl) (fun _ => rfl) (chkRm rfl (by decide) rfl (fun _ => rfl) (fun _ => rfl) trivial)))) mD mQ
          · have hA' := of_decide_eq_false hA
            iterate 4 refine dr_act wN mb ma mc mT mR ?_
            cases hB : decide (w.n > 0)
            · have hB' := of_decide_eq_false hB
              iterate 4 refine dr_skip wG mT ?_
              repeat refine dr_act wN mb ma mc mT mR ?_
              rw [decide_eq_false (show ¬ (d + w.n ≤ i ∧ (w.n > 0 ∨ d < i ∨ i = lenR ws)) by omega)]
              exact dr_nil (weak_ren [] mK (chkR_cons mK (chkR_cons mK (chkRm rfl (by decide) rfl (fun _ => rfl) (fun _ => rfl) (chkRm rfl (by decide) rfl (fun _ => rfl) (fun _ => rfl) trivial)))) mD mQ)
            have hB' := of_decide_eq_true hB
            iterate 4 refine dr_act wG mb ma mc mT mR ?_
            repeat refine dr_act wN mb ma mc mT mR ?_
            have e : decide (i - d ≥ w.n) = decide (d + w.n ≤ i ∧ (w.n > 0 ∨ d < i ∨ i = lenR ws)) := by
              rw [decide_eq_decide]; omega
            rw [e]
            exact dr_nil (weak_ren [] mK (chkR_cons mK (chkR_cons mK (chkRm rfl (by decide) rfl (fun _ => rfl) (fun _ => rfl) (chkRm rfl (by decide) rfl (fun _ => rfl) (fun _ => rfl) trivial)))) mD mQ)
      · refine ev_cond _ ml (fun hX => ?_) (fun hX => ?_)
        · have hX' := of_decide_eq_true hX
          refine ev_rf mB ?_
          repeat refine dr_act wN mb ma mc mT mR ?_
          refine dr_act wN mb ma (by exact ⟨⟨by simp only [maxLen]; omega, by omega⟩, rfl⟩) mT mR ?_
          repeat refine dr_act wN mb ma mc mT mR ?_
          have eF : toF (lenR ws) i d w = [w] := by rw [toF, if_pos hX']
          have eS : toS (lenR ws) i d w = [] := by rw [toS, if_pos hX']
          refine dr_nil (show Weak (En 89) C0 _ _ from ?_)
          rw [eF, eS, List.append_nil, List.length_append]
          exact weak_ren [(24, 2024)] mK (chkR_cons mK (chkR_cons mK (chkRm rfl (by decide) (mapW f w) (fun _ => rfl) (fun _ => rfl) (chkRm rfl (by decide) rfl (fun _ => rfl) (fun _ => rfl) trivial)))) mD mQ
        · have hX' := of_decide_eq_false hX
          refine ev_seq fun K4 h4 => ev_rf mB ?_
          repeat refine dr_act wN mb ma mc mT mR ?_
          refine dr_nil (h4 _ ?_); clear h4
          refine ev_cond _ ml (fun hY => ?_) (fun hY => ?_)
          · have hY' := of_decide_eq_true hY
            refine ev_rf mB ?_
            repeat refine dr_act wN mb ma mc mT mR ?_
            refine dr_act wN mb ma (by exact ⟨⟨by simp only [maxLen]; omega, by omega⟩, rfl⟩) mT mR ?_
            repeat refine dr_act wN mb ma mc mT mR ?_
            have eF : toF (lenR ws) i d w = [] := by rw [toF, if_neg hX', if_pos (by omega)]
            have eS : toS (lenR ws) i d w = [w] := by rw [toS, if_neg hX', if_pos (by omega)]
            refine dr_nil (show Weak (En 89) C0 _ _ from ?_)
            rw [eF, eS, List.append_nil, List.length_append]
            exact weak_ren [(32, 2048)] mK (chkR_cons mK (chkR_cons mK (chkRm rfl (by decide) rfl (fun _ => rfl) (fun _ => rfl) (chkRm rfl (by decide) (mapW s w) (fun _ => rfl) (fun _ => rfl) trivial)))) mD mQ
          · have hY' := of_decide_eq_false hY
            have hn : i - d < w.n := Int.not_le.1 fun hh => hX' ⟨by omega, .inr (.inl (by omega))⟩
            have v2 : w64 (w.s + 0) = w.s := (wrap_of (by omega) (by omega)).trans (by omega)
            have v4 : IntKind.i64.wrap (w.s + (i - d)) = w.s + (i - d) := wrap_of (by omega) (by omega)
            have v5 : IntKind.i64.wrap (w.n - (i - d)) = w.n - (i - d) := wrap_of (by omega) (by omega)
            have v6 : IntKind.i64.wrap (w.c - (i - d)) = w.c - (i - d) := wrap_of (by omega) (by omega)
            have k1 := c159 w 0 (i - d)
            rw [v2] at k1
            refine ev_seq fun K4 h4 => ev_rf mB ?_
            repeat refine dr_act wN mb ma mc mT mR ?_
            refine dr_callF wN mr mb mx mr k1 (Nat.le_of_ble_eq_true rfl) mv mT mN ?_
            repeat refine dr_act wN mb ma mc mT mR ?_
            refine dr_act wN mb ma (by exact ⟨⟨by simp only [maxLen]; omega, by omega⟩, rfl⟩) mT mR ?_
            repeat refine dr_act wN mb ma mc mT mR ?_
            refine dr_nil (h4 _ ?_); clear h4
            refine ev_rf mB ?_
            repeat refine dr_act wN mb ma mc mT mR ?_
            rw [v4, v5, v6]
            refine dr_act wN mb ma (by exact ⟨⟨by simp only [maxLen]; omega, by omega⟩, rfl⟩) mT mR ?_
            repeat refine dr_act wN mb ma mc mT mR ?_
            have eF : toF (lenR ws) i d w = [⟨w.a, w.s, i - d, i - d⟩] := by rw [toF, if_neg hX', if_neg (by omega)]
            have eS : toS (lenR ws) i d w = [⟨w.a, w.s + (i - d), w.n - (i - d), w.c - (i - d)⟩] := by rw [toS, if_neg hX', if_neg (by omega)]
            refine dr_nil (show Weak (En 89) C0 _ _ from ?_)
            rw [eF, eS, List.length_append, List.length_append]
            exact weak_ren [(24, 2064), (32, 2216)] mK (chkR_cons mK (chkR_cons mK (chkRm rfl (by decide) (mapW f ⟨w.a, w.s, i - d, i - d⟩) (fun _ => rfl) (fun _ => rfl) (chkRm rfl (by decide) (mapW s ⟨w.a, w.s + (i - d), w.n - (i - d), w.c - (i - d)⟩) (fun _ => rfl) (fun _ => rfl) trivial)))) mD mQ
    · refine ev_rf mB ?_
      repeat refine dr_act wN mb ma mc mT mR ?_
      rw [w1]
      refine dr_nil (h2 _ (ev_rf mB ?_)); clear h2
      repeat refine dr_act wN mb ma mc mT mR ?_
      refine dr_nil ⟨⟨k + 1, by omega⟩, by simp only []; omega, ?_⟩
      rw [w64p (n := ws.length) (by omega) (by omega), ← hld, ← hsf, ← hss]
      exact weak_ren [] mK (chkR_cons mK (chkRm rfl (by decide) rfl (fun _ => rfl) (fun _ => rfl) (chkRm rfl (by decide) rfl (fun _ => rfl) (fun _ => rfl) trivial))) mD mQ
  · simp only [seqK, loopK, blkK, ↓reduceIte]
    refine h1 _ ?_; clear h1 h2
    have hge := of_decide_eq_false hc
    obtain rfl : k = ws.length := by omega
    simp only [List.take_length]
    refine ev_seq fun K1 h1 => ev_rf mB ?_
    repeat refine dr_act wN mb ma mc mT mR ?_
    refine dr_nil (h1 _ (ev_ret ?_)); clear h1
    exact retL [24, 32] (res' := [.tmp 4, .tmp 5]) mr (.tmp nT mL (.tmp nT mL .nil)) rfl mr (by decide) ⟨⟨mr, okRW⟩, ⟨mr, okRW⟩, trivial⟩
end Go.Ev
namespace Go.Ev
open Go Go.RowKit Go.Proofs

theorem fWSS {R : Rs} {n : Nat} {wss : List (List Win)} {k : Nat} (h : R n = some ⟨82, 1, wss.map fun ws => [.row 4 (ws.map cW)]⟩) (hk : k = wss.length) : FrzC R (.ref (n, none) 0 k) (eWSS wss) :=
  .ref (act_of h) (cut_all (by rw [hk, List.length_map])) (frzE_map (fun ws => .cons (.row (by rw [List.all_map]; exact List.all_eq_true.2 fun w _ => rfl)) .nil) wss)

theorem okNW {ws : List Win} : (ws.map cW).all (fun x => x.all notRow) = true := by
  rw [List.all_map]; exact List.all_eq_true.2 fun w _ => rfl

theorem jnd2 (f s : List Win) : jnd [f, s] = if (f ++ s).length ≤ 12 then some (f ++ s) else none := by simp [jnd]
theorem jnd3 (f o s : List Win) : jnd [f, o, s] = if (f ++ o ++ s).length ≤ 12 then some (f ++ o ++ s) else none := by simp [jnd, List.append_assoc]
theorem wrM_new {m : List (List Int)} {xs : List Int} : wrM (m ++ [List.replicate xs.length 0]) m.length 0 xs = m ++ [xs] := by
  have : (m ++ [List.replicate xs.length (0 : Int)]).getD m.length [] = List.replicate xs.length 0 := by rw [List.getD_eq_getElem?_getD, List.getElem?_concat_length]; rfl
  rw [wrM, this, List.set_append_right _ _ (Nat.le_refl _), Nat.sub_self]
  simp [ovr]

theorem c60 (m : List (List Int)) (ws : List Win) (i : Int) (xs : List Int) (hl1 : m.length ≤ 1048576) (hl2 : ∀ r, r ∈ m → r.length ≤ 1048576) (hw : ws.length ≤ 1048576) (hx : xs.length ≤ 1048576) :
    Good Try.prog 60 [eMem m, eR ws, vi i, eB xs] (oMR (insR m ws i xs)) (rMR (insR m ws i xs)) := by
  refine good_of (E := En 93) (fn := Try.f60) (by kernel_rfl) (by kernel_rfl) rfl rfl (by simp only [List.length_cons, List.length_nil]; decide) (fun C0 => ?_)
  simp only [argT, Nat.reduceAdd, eB]
  refine ev_seq fun K1 h1 => ev_rf mB ?_
  repeat refine dr_act wN mb ma mc mT mR ?_
  refine dr_nil (h1 _ ?_); clear h1
  refine ev_seq fun K1 h1 => ?_
  refine ev_cut ⟨[(2, vi i), (3, .list 1 (xs.map cB)), (4, .ptr (0, none) 0 0), (5, .ptr (8, none) 0 0), (8, .ptr (16, none) 0 0), (9, .ptr (24, none) 0 0), (10, vb false), (35, vb (decide (¬ cutR m ws i = true ∨ 64 < xs.length)))], [(0, ⟨31, 1, [[eM m]]⟩), (8, ⟨98, 1, [[eWS ws]]⟩), (16, ⟨31, 1, [[.val (.slice none 0 0)]]⟩), (24, ⟨98, 1, [[.val (.slice none 0 0)]]⟩)], 400⟩ (ev_rf mB ?_) ?_
  · iterate 2 refine dr_act wN mb ma mc mT mR ?_
    refine dr_callF wN mr mb mx mr (c122 m ws hl1 hl2 hw) (Nat.le_of_ble_eq_true rfl) mv mT mN ?_
    cases hR : okR m ws
    · repeat refine dr_act wN mb ma mc mT mR ?_
      iterate 5 refine dr_skip wG mT ?_
      repeat refine dr_act wN mb ma mc mT mR ?_
      iterate 3 refine dr_skip wG mT ?_
      repeat refine dr_act wN mb ma mc mT mR ?_
      rw [decide_eq_true (.inl fun h => by simp [cutR, hR] at h)]
      exact dr_nil (show Weak (En 93) C0 _ _ from weak_ren [] mK mK mD mQ)
    repeat refine dr_act wN mb ma mc mT mR ?_
    iterate 2 refine dr_act wG mb ma mc mT mR ?_
    refine dr_callF wG mr mb mx mr (c124 ws hw (okR_n hR)) (Nat.le_of_ble_eq_true rfl) mv mT mN ?_
    refine dr_callF wG mr mb mx mr (c123 i 0 (lenR ws)) (Nat.le_of_ble_eq_true rfl) mv mT mN ?_
    have hC : cutR m ws i = decide (0 ≤ i ∧ i ≤ lenR ws) := by rw [cutR, hR, Bool.true_and]
    rw [hC]
    cases hI : decide (0 ≤ i ∧ i ≤ lenR ws)
    · refine dr_act wG mb ma mc mT mR ?_
      repeat refine dr_act wN mb ma mc mT mR ?_
      iterate 3 refine dr_skip wG mT ?_
      repeat refine dr_act wN mb ma mc mT mR ?_
      rw [decide_eq_true (.inl fun h => by cases h)]
      exact dr_nil (show Weak (En 93) C0 _ _ from weak_ren [] mK mK mD mQ)
    refine dr_act wG mb ma mc mT mR ?_
    repeat refine dr_act wN mb ma mc mT mR ?_
    iterate 3 refine dr_act wG mb ma mc mT mR ?_
    repeat refine dr_act wN mb ma mc mT mR ?_
    have e : decide (((xs.length : Nat) : Int) > 64) = decide (¬ true = true ∨ 64 < xs.length) := by rw [decide_eq_decide]; simp; omega
    rw [e]
    exact dr_nil (show Weak (En 93) C0 _ _ from weak_ren [] mK mK mD mQ)
  refine ev_cond _ ml (fun h => ?_) (fun h => ev_skip (h1 _ ?_))
  · have h := of_decide_eq_true h
    have e : insR m ws i xs = none := by
      rw [insR]; split
      · rename_i hC
        have h64 : 64 < xs.length := h.elim (fun h => absurd hC h) id
        rw [newM, if_neg (by omega), if_pos (.inl h64)]
      · rfl
    rw [e]
    refine ev_seq fun K2 h2 => ev_rf mB ?_
    repeat refine dr_act wN mb ma mc mT mR ?_
    refine dr_nil (h2 _ (ev_ret ?_)); clear h2 h1
    exact retL [] (res' := [.cell 8 31, .cell 9 98, .tmp 10]) mr (.cell nT mZ ma mc mP (.cell nT mZ ma mc mP (.tmp nT mL .nil))) rfl mr (by decide) trivial
  have h := of_decide_eq_false h
  have hC : cutR m ws i = true := by
    cases e : cutR m ws i with
    | true => rfl
    | false => exact absurd (.inl (by rw [e]; exact Bool.false_ne_true)) h
  have h64 : xs.length ≤ 64 := Nat.not_lt.1 fun h' => h (.inr h')
  clear h1 h K1
  have hsp := cutR_ok hC
  have hl := hsp.l
  have k125 := c125 ws i hsp
  have hf1 := splF_len (lenR ws) i ws 0
  have hs1 := splS_len (lenR ws) i ws 0
  have hI : insR m ws i xs = match newM m xs with
    | none => none
    | some (m', own) => if (splF (lenR ws) i ws 0 ++ own ++ splS (lenR ws) i ws 0).length ≤ 12 then some (m', splF (lenR ws) i ws 0 ++ own ++ splS (lenR ws) i ws 0) else none := by rw [insR, if_pos hC] <;> rfl
  generalize splF (lenR ws) i ws 0 = f at *
  generalize splS (lenR ws) i ws 0 = s at *
  refine ev_seq fun K1 h1 => ev_rf mB ?_
  repeat refine dr_act wN mb ma mc mT mR ?_
  refine dr_callF wN mr mb mx mr k125 (Nat.le_of_ble_eq_true rfl) mv mT mN ?_
  repeat refine dr_act wN mb ma mc mT mR ?_
  refine dr_nil (h1 _ ?_); clear h1
  refine ev_seq fun K1 h1 => ?_
  refine ev_seq fun K2 h2 => ev_rf mB ?_
  repeat refine dr_act wN mb ma mc mT mR ?_
  refine dr_nil (h2 _ ?_); clear h2
  refine ev_cond _ ml (fun h => ?_) (fun h => ev_skip (h1 _ ?_))
  · have h0 : xs.length = 0 := by have : (xs.length : Int) = 0 := by simpa using h
                                  omega
    clear h1
    have e : newM m xs = some (m, []) := by rw [newM, if_pos h0]
    rw [e] at hI
    simp only [List.append_nil] at hI
    have hc := c126 [f, s] (by simp) (by simp; omega)
    refine ev_seq fun K2 h2 => ev_rf mB ?_
    repeat refine dr_act wN mb ma mc mT mR ?_
    refine dr_act wN mb ma (by exact ⟨⟨rfl, by decide, by simp⟩, ⟨okNW, okNW⟩, by decide⟩) mT mR ?_
    rcases hj : jnd [f, s] with _ | j
    · rw [hj] at hc
      have hI' : insR m ws i xs = none := by
        rw [jnd2] at hj; rw [hI]
        split at hj
        · cases hj
        · rw [if_neg (by assumption)]
      rw [hI'] at h2 ⊢
      refine dr_call wN mr mb mx (.cons (.cell (fWSS (wss := [f, s]) mr rfl)) .nil) hc (Nat.le_of_ble_eq_true rfl) mv mT mN ?_
      repeat refine dr_act wN mb ma mc mT mR ?_
      refine dr_nil (h2 _ ?_); clear h2
      refine ev_seq fun K2 h2 => ?_
      refine ev_seq fun K3 h3 => ev_rf mB ?_
      repeat refine dr_act wN mb ma mc mT mR ?_
      refine dr_nil (h3 _ ?_); clear h3
      refine ev_cond true mlq (fun h => ?_) (fun h => by cases h)
      refine ev_seq fun K3 h3 => ev_rf mB ?_
      repeat refine dr_act wN mb ma mc mT mR ?_
      refine dr_nil (h3 _ (ev_ret ?_)); clear h3 h2
      exact retL [] (res' := [.cell 8 31, .cell 9 98, .tmp 10]) mr (.cell nT mZ ma mc mP (.cell nT mZ ma mc mP (.tmp nT mL .nil))) rfl mr (by decide) trivial
    rw [hj] at hc
    have hI' : insR m ws i xs = some (m, j) := by
      rw [jnd2] at hj; rw [hI]
      split at hj
      · rw [if_pos (by assumption), Option.some.inj hj]
      · cases hj
    rw [hI'] at h2 ⊢
    refine dr_call wN mr mb mx (.cons (.cell (fWSS (wss := [f, s]) mr rfl)) .nil) hc (Nat.le_of_ble_eq_true rfl) mv mT mN ?_
    repeat refine dr_act wN mb ma mc mT mR ?_
    refine dr_nil (h2 _ ?_); clear h2
    refine ev_seq fun K2 h2 => ?_
    refine ev_seq fun K3 h3 => ev_rf mB ?_
    repeat refine dr_act wN mb ma mc mT mR ?_
    refine dr_nil (h3 _ ?_); clear h3
    refine ev_cond false mlq (fun h => by cases h) (fun h => ev_skip (h2 _ ?_)); clear h2
    refine ev_seq fun K2 h2 => ev_reg mB ?_
    repeat refine dr_act wN mb ma mc mT mR ?_
    refine dr_callF wN mr mb mx mr (c127 m hl1 hl2) (Nat.le_of_ble_eq_true rfl) mv mT mN ?_
    repeat refine dr_act wN mb ma mc mT mR ?_
    refine dr_nil ⟨fun _ => by kernel_rfl, h2 _ (ev_ret ?_)⟩; clear h2
    exact retL [592, 512] (res' := [.cell 8 31, .cell 9 98, .tmp 10]) mr (.cell nT mZ ma mc mP (.cell nT mZ ma mc mP (.tmp nT mL .nil))) rfl mr (by decide) ⟨⟨mr, okRM⟩, ⟨mr, okRW⟩, trivial⟩
  have h0 : ¬ xs.length = 0 := fun e => by
    have : ¬ (xs.length : Int) = 0 := by simpa using h
    omega
  clear h1 h
  have hM : okM m = true := by
    simp only [cutR, okR, Bool.and_eq_true] at hC
    exact hC.1.1.1
  have hnw : nwM m xs.length = if m.length = 16 then none else some (m ++ [List.replicate xs.length 0], ⟨m.length, 0, xs.length, xs.length⟩) := by
    rw [nwM]
    by_cases h16 : m.length = 16
    · rw [if_pos h16, if_neg (fun h => h.2.2 h16)]
    · rw [if_neg h16, if_pos ⟨hM, by omega, h16⟩]; rfl
  have k128 := c128 m xs.length hl1 hl2
  rw [hnw] at k128
  refine ev_seq fun K1 h1 => ev_rf mB ?_
  repeat refine dr_act wN mb ma mc mT mR ?_
  by_cases h16 : m.length = 16
  · rw [if_pos h16] at k128
    have e : insR m ws i xs = none := by rw [hI, newM, if_neg h0, if_pos (.inr h16)]
    rw [e] at h1 ⊢
    refine dr_callF wN mr mb mx mr k128 (Nat.le_of_ble_eq_true rfl) mv mT mN ?_
    repeat refine dr_act wN mb ma mc mT mR ?_
    refine dr_nil (h1 _ ?_); clear h1
    refine ev_seq fun K1 h1 => ev_rf mB ?_
    repeat refine dr_act wN mb ma mc mT mR ?_
    refine dr_act wN mb ma (by refine ⟨⟨rfl, by decide, by simp⟩, ?_, by decide⟩; (repeat' apply And.intro) <;> first | exact okNW | trivial | rfl) mT mR ?_
    have hc := c126 [f, [wz], s] (by simp) (by simp; omega)
    rcases hj : jnd [f, [wz], s] with _ | j
    · rw [hj] at hc
      refine dr_call wN mr mb mx (.cons (.cell (fWSS (wss := [f, [wz], s]) mr rfl)) .nil) hc (Nat.le_of_ble_eq_true rfl) mv mT mN ?_
      repeat refine dr_act wN mb ma mc mT mR ?_
      refine dr_nil (h1 _ ?_); clear h1
      refine ev_seq fun K1 h1 => ?_
      refine ev_seq fun K2 h2 => ev_rf mB ?_
      repeat refine dr_act wN mb ma mc mT mR ?_
      iterate 2 refine dr_skip wG mT ?_
      repeat refine dr_act wN mb ma mc mT mR ?_
      refine dr_nil (h2 _ ?_); clear h2
      refine ev_cond true mlq (fun h => ?_) (fun h => by cases h)
      refine ev_seq fun K3 h3 => ev_rf mB ?_
      repeat refine dr_act wN mb ma mc mT mR ?_
      refine dr_nil (h3 _ (ev_ret ?_)); clear h3 h1
      exact retL [] (res' := [.cell 8 31, .cell 9 98, .tmp 10]) mr (.cell nT mZ ma mc mP (.cell nT mZ ma mc mP (.tmp nT mL .nil))) rfl mr (by decide) trivial
    · rw [hj] at hc
      refine dr_call wN mr mb mx (.cons (.cell (fWSS (wss := [f, [wz], s]) mr rfl)) .nil) hc (Nat.le_of_ble_eq_true rfl) mv mT mN ?_
      repeat refine dr_act wN mb ma mc mT mR ?_
      refine dr_nil (h1 _ ?_); clear h1
      refine ev_seq fun K1 h1 => ?_
      refine ev_seq fun K2 h2 => ev_rf mB ?_
      repeat refine dr_act wN mb ma mc mT mR ?_
      iterate 2 refine dr_skip wG mT ?_
      repeat refine dr_act wN mb ma mc mT mR ?_
      refine dr_nil (h2 _ ?_); clear h2
      refine ev_cond true mlq (fun h => ?_) (fun h => by cases h)
      refine ev_seq fun K3 h3 => ev_rf mB ?_
      repeat refine dr_act wN mb ma mc mT mR ?_
      refine dr_nil (h3 _ (ev_ret ?_)); clear h3 h1
      exact retL [] (res' := [.cell 8 31, .cell 9 98, .tmp 10]) mr (.cell nT mZ ma mc mP (.cell nT mZ ma mc mP (.tmp nT mL .nil))) rfl mr (by decide) trivial
  rw [if_neg h16] at k128
  have hnm : newM m xs = some (m ++ [xs], [⟨m.length, 0, xs.length, xs.length⟩]) := by rw [newM, if_neg h0, if_neg (by omega)]
  rw [hnm] at hI
  simp only [] at hI
  have hc := c126 [f, [⟨m.length, 0, xs.length, xs.length⟩], s] (by simp) (by simp; omega)
  refine dr_callF wN mr mb mx mr k128 (Nat.le_of_ble_eq_true rfl) mv mT mN ?_
  repeat refine dr_act wN mb ma mc mT mR ?_
  refine dr_nil (h1 _ ?_); clear h1
  refine ev_seq fun K1 h1 => ev_rf mB ?_
  repeat refine dr_act wN mb ma mc mT mR ?_
  refine dr_act wN mb ma (by refine ⟨⟨rfl, by decide, by simp⟩, ?_, by decide⟩; (repeat' apply And.intro) <;> first | exact okNW | trivial | rfl) mT mR ?_
  rcases hj : jnd [f, [⟨m.length, 0, xs.length, xs.length⟩], s] with _ | j
  · rw [hj] at hc
    have hI' : insR m ws i xs = none := by
      rw [jnd3] at hj; rw [hI]
      split at hj
      · cases hj
      · rw [if_neg (by assumption)]
    rw [hI'] at h1 ⊢
    refine dr_call wN mr mb mx (.cons (.cell (fWSS (wss := [f, [⟨m.length, 0, xs.length, xs.length⟩], s]) mr rfl)) .nil) hc (Nat.le_of_ble_eq_true rfl) mv mT mN ?_
    repeat refine dr_act wN mb ma mc mT mR ?_
    refine dr_nil (h1 _ ?_); clear h1
    refine ev_seq fun K1 h1 => ?_
    refine ev_seq fun K2 h2 => ev_rf mB ?_
    repeat refine dr_act wN mb ma mc mT mR ?_
    iterate 2 refine dr_act wG mb ma mc mT mR ?_
    repeat refine dr_act wN mb ma mc mT mR ?_
    refine dr_nil (h2 _ ?_); clear h2
    refine ev_cond true mlq (fun h => ?_) (fun h => by cases h)
    refine ev_seq fun K3 h3 => ev_rf mB ?_
    repeat refine dr_act wN mb ma mc mT mR ?_
    refine dr_nil (h3 _ (ev_ret ?_)); clear h3 h1
    exact retL [] (res' := [.cell 8 31, .cell 9 98, .tmp 10]) mr (.cell nT mZ ma mc mP (.cell nT mZ ma mc mP (.tmp nT mL .nil))) rfl mr (by decide) trivial
  rw [hj] at hc
  have hI' : insR m ws i xs = some (m ++ [xs], j) := by
    rw [jnd3] at hj; rw [hI]
    split at hj
    · rw [if_pos (by assumption), Option.some.inj hj]
    · cases hj
  rw [hI'] at h1 ⊢
  refine dr_call wN mr mb mx (.cons (.cell (fWSS (wss := [f, [⟨m.length, 0, xs.length, xs.length⟩], s]) mr rfl)) .nil) hc (Nat.le_of_ble_eq_true rfl) mv mT mN ?_
  repeat refine dr_act wN mb ma mc mT mR ?_
  refine dr_nil (h1 _ ?_); clear h1
  refine ev_seq fun K1 h1 => ?_
  refine ev_seq fun K2 h2 => ev_rf mB ?_
  repeat refine dr_act wN mb ma mc mT mR ?_
  iterate 2 refine dr_act wG mb ma mc mT mR ?_
  repeat refine dr_act wN mb ma mc mT mR ?_
  refine dr_nil (h2 _ ?_); clear h2
  refine ev_cond false mlq (fun h => by cases h) (fun h => ev_skip (h1 _ ?_)); clear h1
  refine ev_seq fun K1 h1 => ev_rf mB ?_
  repeat refine dr_act wN mb ma mc mT mR ?_
  have hfit : Fits (m ++ [List.replicate xs.length 0]) ⟨m.length, 0, xs.length, xs.length⟩ := by
    have e : (m ++ [List.replicate xs.length (0 : Int)]).getD m.length [] = List.replicate xs.length 0 := by rw [List.getD_eq_getElem?_getD, List.getElem?_concat_length]; rfl
    refine ⟨by simp, by simp; omega, by simp, by simp, ?_, ?_⟩ <;> simp only [Int.toNat_natCast, e, List.length_replicate] <;> omega
  refine dr_callR [512] [] wN mr mb mx (c107 (m ++ [List.replicate xs.length 0]) ⟨m.length, 0, xs.length, xs.length⟩ hfit (wrap_of (by simp only []; omega) (by simp only []; omega))) (.ren rfl rfl (.ren rfl rfl .nil)) (hand1 mr) ⟨⟨by decide, nz⟩, Nat.le_of_ble_eq_true rfl⟩ (v := .ref (512, some (((m.length : Nat) : Int).toNat, 0)) ((0 : Int)).toNat ((xs.length : Nat) : Int).toNat) rfl mT (wr1.trans mRd) ?_
  simp only [Int.toNat_natCast, Int.toNat_zero]
  repeat refine dr_act wN mb ma mc mT mR ?_
  refine dr_cpr xs wN mr mb ml mr (by simp) (by simp only [En_nt, lookO, lookT, Nat.reduceEqDiff, Nat.reduceLT, ↓reduceIte]; rfl) mS (Nat.le_refl _) mT mRd fun z => ?_
  rw [wrM_new]
  refine dr_nil (h1 _ ?_); clear h1
  refine ev_seq fun K1 h1 => ev_reg mB ?_
  repeat refine dr_act wN mb ma mc mT mR ?_
  refine dr_nil ⟨fun _ => by kernel_rfl, h1 _ (ev_ret ?_)⟩; clear h1
  exact retL [512, 632] (res' := [.cell 8 31, .cell 9 98, .tmp 10]) mr (.cell nT mZ ma mc mP (.cell nT mZ ma mc mP (.tmp nT mL .nil))) (by simp only [oMR, oM, List.length_append, List.length_cons, List.length_nil]; rfl) mr (by decide) ⟨⟨mr, okRM⟩, ⟨mr, okRW⟩, trivial⟩
end Go.Ev
namespace Go.Ev
open Go Go.RowKit Go.Proofs

/-- Whether a stretch lies in a rope. -/
def rngR (m : List (List Int)) (ws : List Win) (i j : Int) : Bool := cutR m ws j && decide (0 ≤ i ∧ i ≤ j)

theorem c165 (m : List (List Int)) (ws : List Win) (i j : Int) (hl1 : m.length ≤ 1048576) (hl2 : ∀ r, r ∈ m → r.length ≤ 1048576) (hw : ws.length ≤ 1048576) : Good Try.prog 165 [eMem m, eR ws, vi i, vi j] (vb (rngR m ws i j)) [] := by
  refine good_of (E := En 18) (fn := Try.f165) (by kernel_rfl) (by kernel_rfl) rfl rfl (by simp only [List.length_cons, List.length_nil]; decide) (fun C0 => ?_)
  simp only [argT, Nat.reduceAdd]
  refine ev_seq fun K1 h1 => ev_rf mB ?_
  repeat refine dr_act wN mb ma mc mT mR ?_
  refine dr_nil (h1 _ ?_); clear h1 K1
  refine ev_seq fun K1 h1 => ev_rf mB ?_
  repeat refine dr_act wN mb ma mc mT mR ?_
  refine dr_callF wN mr mb mx mr (c115 m ws j hl1 hl2 hw) (Nat.le_of_ble_eq_true rfl) mv mT mN ?_
  repeat refine dr_act wN mb ma mc mT mR ?_
  cases hR : cutR m ws j
  · iterate 3 refine dr_skip wG mT ?_
    repeat refine dr_act wN mb ma mc mT mR ?_
    refine dr_nil (h1 _ (ev_ret ?_)); clear h1
    exact retT [8] (hv := by rw [rngR, hR]; rfl)
  repeat refine dr_act wG mb ma mc mT mR ?_
  refine dr_callF wG mr mb mx mr (c133 i 0 j) (Nat.le_of_ble_eq_true rfl) mv mT mN ?_
  repeat refine dr_act wN mb ma mc mT mR ?_
  refine dr_nil (h1 _ (ev_ret ?_)); clear h1
  exact retT [8] (hv := by rw [rngR, hR]; rfl)

theorem c166 (ws : List Win) (i j : Int) (hw : ws.length ≤ 1048576) (hb : ∀ w, w ∈ ws → 0 ≤ w.n ∧ w.n ≤ 64) : Good Try.prog 166 [eR ws, vi i, vi j] (vb (decide (0 ≤ j ∧ j ≤ lenR ws) && decide (0 ≤ i ∧ i ≤ j))) [] := by
  refine good_of (E := En 16) (fn := Try.f166) (by kernel_rfl) (by kernel_rfl) rfl rfl (by simp only [List.length_cons, List.length_nil]; decide) (fun C0 => ?_)
  simp only [argT, Nat.reduceAdd]
  refine ev_seq fun K1 h1 => ev_rf mB ?_
  repeat refine dr_act wN mb ma mc mT mR ?_
  refine dr_nil (h1 _ ?_); clear h1 K1
  refine ev_seq fun K1 h1 => ev_rf mB ?_
  repeat refine dr_act wN mb ma mc mT mR ?_
  refine dr_callF wN mr mb mx mr (c124 ws hw hb) (Nat.le_of_ble_eq_true rfl) mv mT mN ?_
  refine dr_callF wN mr mb mx mr (c123 j 0 (lenR ws)) (Nat.le_of_ble_eq_true rfl) mv mT mN ?_
  repeat refine dr_act wN mb ma mc mT mR ?_
  cases hR : decide (0 ≤ j ∧ j ≤ lenR ws)
  · iterate 3 refine dr_skip wG mT ?_
    repeat refine dr_act wN mb ma mc mT mR ?_
    refine dr_nil (h1 _ (ev_ret ?_)); clear h1
    exact retT [6] (hv := by rw [hR]; rfl)
  repeat refine dr_act wG mb ma mc mT mR ?_
  refine dr_callF wG mr mb mx mr (c123 i 0 j) (Nat.le_of_ble_eq_true rfl) mv mT mN ?_
  repeat refine dr_act wN mb ma mc mT mR ?_
  refine dr_nil (h1 _ (ev_ret ?_)); clear h1
  exact retT [6] (hv := by rw [hR]; rfl)

/-- A rope without a stretch. -/
def delR (m : List (List Int)) (ws : List Win) (i j : Int) : Option (List Win) := if rngR m ws i j = true then jnd [splF (lenR ws) i ws 0, splS (lenR ws) j ws 0] else none

theorem rngR_ok {m : List (List Int)} {ws : List Win} {i j : Int} (h : rngR m ws i j = true) : SplOK ws i ∧ SplOK ws j := by
  simp only [rngR, Bool.and_eq_true, decide_eq_true_eq] at h
  have k := cutR_ok h.1
  exact ⟨⟨k.l, k.n, h.2.1, Int.le_trans h.2.2 k.i.2⟩, k⟩

theorem c135 (m : List (List Int)) (ws : List Win) (i j : Int) (hl1 : m.length ≤ 1048576) (hl2 : ∀ r, r ∈ m → r.length ≤ 1048576) (hw : ws.length ≤ 1048576) : Good Try.prog 135 [eMem m, eR ws, vi i, vi j] (oJ (delR m ws i j)) (rJ (delR m ws i j)) := by
  refine good_of (E := En 39) (fn := Try.f135) (by kernel_rfl) (by kernel_rfl) rfl rfl (by simp only [List.length_cons, List.length_nil]; decide) (fun C0 => ?_)
  simp only [argT, Nat.reduceAdd]
  refine ev_seq fun K1 h1 => ev_rf mB ?_
  repeat refine dr_act wN mb ma mc mT mR ?_
  refine dr_nil (h1 _ ?_); clear h1 K1
  refine ev_seq fun K1 h1 => ?_
  refine ev_seq fun K2 h2 => ev_rf mB ?_
  repeat refine dr_act wN mb ma mc mT mR ?_
  refine dr_callF wN mr mb mx mr (c165 m ws i j hl1 hl2 hw) (Nat.le_of_ble_eq_true rfl) mv mT mN ?_
  repeat refine dr_act wN mb ma mc mT mR ?_
  refine dr_nil (h2 _ ?_); clear h2
  cases hC : rngR m ws i j
  · have e : delR m ws i j = none := by rw [delR, if_neg (by rw [hC]; decide)]
    rw [e] at h1 ⊢
    refine ev_cond true mlq (fun h => ?_) (fun h => by cases h)
    refine ev_seq fun K2 h2 => ev_rf mB ?_
    repeat refine dr_act wN mb ma mc mT mR ?_
    refine dr_nil (h2 _ (ev_ret ?_)); clear h2 h1
    exact retL [] (res' := [.cell 8 98, .tmp 9]) mr (.cell nT mZ ma mc mP (.tmp nT mL .nil)) rfl mr (by decide) trivial
  obtain ⟨hs1, hs2⟩ := rngR_ok hC
  have hl12 := hs1.l
  have e : delR m ws i j = jnd [splF (lenR ws) i ws 0, splS (lenR ws) j ws 0] := by rw [delR, if_pos hC]
  rw [e]
  have hf := splF_len (lenR ws) i ws 0
  have hs := splS_len (lenR ws) j ws 0
  have k1 := c117 ws i hs1
  have k2 := c117 ws j hs2
  rw [e] at h1
  generalize splF (lenR ws) i ws 0 = f at *
  generalize splS (lenR ws) j ws 0 = s at *
  generalize splS (lenR ws) i ws 0 = f' at *
  generalize splF (lenR ws) j ws 0 = s' at *
  refine ev_cond false mlq (fun h => by cases h) (fun h => ev_skip (h1 _ ?_)); clear h1
  refine ev_seq fun K1 h1 => ev_rf mB ?_
  repeat refine dr_act wN mb ma mc mT mR ?_
  refine dr_callF wN mr mb mx mr k1 (Nat.le_of_ble_eq_true rfl) mv mT mN ?_
  repeat refine dr_act wN mb ma mc mT mR ?_
  refine dr_nil (h1 _ ?_); clear h1
  refine ev_seq fun K1 h1 => ev_rf mB ?_
  repeat refine dr_act wN mb ma mc mT mR ?_
  refine dr_callF wN mr mb mx mr k2 (Nat.le_of_ble_eq_true rfl) mv mT mN ?_
  repeat refine dr_act wN mb ma mc mT mR ?_
  refine dr_nil (h1 _ ?_); clear h1
  by_cases h12 : (f ++ s).length ≤ 12
  · rw [jnd2, if_pos h12]
    refine ev_seq fun K1 h1 => ev_rf mB ?_
    repeat refine dr_act wN mb ma mc mT mR ?_
    refine dr_call wN mr mb mx (.cons (fR mr) (.cons (fR mr) .nil)) (c119 f s (by omega) (by omega)) (Nat.le_of_ble_eq_true rfl) mv mT mN ?_
    refine dr_callR [256] [] wN mr mb mx (c118a (f ++ s) h12) (.ren rfl rfl .nil) (handW mr) ⟨⟨by decide, nz⟩, Nat.le_of_ble_eq_true rfl⟩ (v := .tup [oR 256 (f ++ s), vb true]) rfl mT (wrW.trans mRd) ?_
    repeat refine dr_act wN mb ma mc mT mR ?_
    refine dr_nil (h1 _ (ev_ret ?_)); clear h1
    exact retL [256] (res' := [.cell 8 98, .tmp 9]) mr (.cell nT mZ ma mc mP (.tmp nT mL .nil)) rfl mr (by decide) ⟨⟨mr, okRW⟩, trivial⟩
  · rw [jnd2, if_neg h12]
    refine ev_seq fun K1 h1 => ev_rf mB ?_
    repeat refine dr_act wN mb ma mc mT mR ?_
    refine dr_call wN mr mb mx (.cons (fR mr) (.cons (fR mr) .nil)) (c119 f s (by omega) (by omega)) (Nat.le_of_ble_eq_true rfl) mv mT mN ?_
    refine dr_callR [256] [] wN mr mb mx (c118b (f ++ s) (by omega)) (.ren rfl rfl .nil) (handW mr) ⟨⟨by decide, nz⟩, Nat.le_of_ble_eq_true rfl⟩ (v := .tup [zR, vb false]) rfl mT (wrW.trans mRd) ?_
    repeat refine dr_act wN mb ma mc mT mR ?_
    refine dr_nil (h1 _ (ev_ret ?_)); clear h1
    exact retL [] (res' := [.cell 8 98, .tmp 9]) mr (.cell nT mZ ma mc mP (.tmp nT mL .nil)) rfl mr (by decide) trivial

theorem c136 (m : List (List Int)) (ws : List Win) (i j : Int) (hl1 : m.length ≤ 1048576) (hl2 : ∀ r, r ∈ m → r.length ≤ 1048576) (hw : ws.length ≤ 1048576) : Good Try.prog 136 [eMem m, eR ws, vi i, vi j] (oJ (delR m ws i j)) (rJ (delR m ws i j)) := by
  refine good_of (E := En 44) (fn := Try.f136) (by kernel_rfl) (by kernel_rfl) rfl rfl (by simp only [List.length_cons, List.length_nil]; decide) (fun C0 => ?_)
  simp only [argT, Nat.reduceAdd]
  refine ev_seq fun K1 h1 => ev_rf mB ?_
  repeat refine dr_act wN mb ma mc mT mR ?_
  refine dr_nil (h1 _ ?_); clear h1 K1
  refine ev_seq fun K1 h1 => ?_
  refine ev_cut ⟨[(2, vi i), (3, vi j), (5, .ptr (8, none) 0 0), (8, .ptr (16, none) 0 0), (24, vb (!rngR m ws i j))], [(8, ⟨98, 1, [[eWS ws]]⟩), (16, ⟨98, 1, [[.val (.slice none 0 0)]]⟩)], 200⟩ (ev_rf mB ?_) ?_
  · repeat refine dr_act wN mb ma mc mT mR ?_
    refine dr_callF wN mr mb mx mr (c122 m ws hl1 hl2 hw) (Nat.le_of_ble_eq_true rfl) mv mT mN ?_
    cases hR : okR m ws
    · repeat refine dr_act wN mb ma mc mT mR ?_
      iterate 5 refine dr_skip wG mT ?_
      repeat refine dr_act wN mb ma mc mT mR ?_
      rw [show rngR m ws i j = false by simp [rngR, cutR, hR]]
      exact dr_nil (show Weak (En 44) C0 _ _ from weak_ren [] mK mK mD mQ)
    repeat refine dr_act wN mb ma mc mT mR ?_
    iterate 3 refine dr_act wG mb ma mc mT mR ?_
    refine dr_callF wG mr mb mx mr (c166 ws i j hw (okR_n hR)) (Nat.le_of_ble_eq_true rfl) mv mT mN ?_
    refine dr_act wG mb ma mc mT mR ?_
    repeat refine dr_act wN mb ma mc mT mR ?_
    rw [show rngR m ws i j = (decide (0 ≤ j ∧ j ≤ lenR ws) && decide (0 ≤ i ∧ i ≤ j)) by simp [rngR, cutR, hR]]
    exact dr_nil (show Weak (En 44) C0 _ _ from weak_ren [] mK mK mD mQ)
  cases hC : rngR m ws i j
  · have e : delR m ws i j = none := by rw [delR, if_neg (by rw [hC]; decide)]
    rw [e] at h1 ⊢
    refine ev_cond true mlq (fun h => ?_) (fun h => by cases h)
    refine ev_seq fun K2 h2 => ev_rf mB ?_
    repeat refine dr_act wN mb ma mc mT mR ?_
    refine dr_nil (h2 _ (ev_ret ?_)); clear h2 h1
    exact retL [] (res' := [.cell 8 98, .tmp 9]) mr (.cell nT mZ ma mc mP (.tmp nT mL .nil)) rfl mr (by decide) trivial
  obtain ⟨hs1, hs2⟩ := rngR_ok hC
  have hl12 := hs1.l
  have e : delR m ws i j = jnd [splF (lenR ws) i ws 0, splS (lenR ws) j ws 0] := by rw [delR, if_pos hC]
  rw [e] at h1 ⊢
  have hf := splF_len (lenR ws) i ws 0
  have hs := splS_len (lenR ws) j ws 0
  have k1 := c125 ws i hs1
  have k2 := c125 ws j hs2
  generalize splF (lenR ws) i ws 0 = f at *
  generalize splS (lenR ws) j ws 0 = s at *
  generalize splS (lenR ws) i ws 0 = f' at *
  generalize splF (lenR ws) j ws 0 = s' at *
  refine ev_cond false mlq (fun h => by cases h) (fun h => ev_skip (h1 _ ?_)); clear h1
  refine ev_seq fun K1 h1 => ev_rf mB ?_
  repeat refine dr_act wN mb ma mc mT mR ?_
  refine dr_callF wN mr mb mx mr k1 (Nat.le_of_ble_eq_true rfl) mv mT mN ?_
  repeat refine dr_act wN mb ma mc mT mR ?_
  refine dr_nil (h1 _ ?_); clear h1
  refine ev_seq fun K1 h1 => ev_rf mB ?_
  repeat refine dr_act wN mb ma mc mT mR ?_
  refine dr_callF wN mr mb mx mr k2 (Nat.le_of_ble_eq_true rfl) mv mT mN ?_
  repeat refine dr_act wN mb ma mc mT mR ?_
  refine dr_nil (h1 _ ?_); clear h1
  have hc := c126 [f, s] (by simp) (by simp; omega)
  refine ev_seq fun K1 h1 => ev_rf mB ?_
  repeat refine dr_act wN mb ma mc mT mR ?_
  refine dr_act wN mb ma (by exact ⟨⟨rfl, by decide, by simp⟩, ⟨okNW, okNW⟩, by decide⟩) mT mR ?_
  rcases hj : jnd [f, s] with _ | t
  · rw [hj] at hc h1
    refine dr_call wN mr mb mx (.cons (.cell (fWSS (wss := [f, s]) mr rfl)) .nil) hc (Nat.le_of_ble_eq_true rfl) mv mT mN ?_
    repeat refine dr_act wN mb ma mc mT mR ?_
    refine dr_nil (h1 _ (ev_ret ?_)); clear h1
    exact retL [] (res' := [.cell 8 98, .tmp 9]) mr (.cell nT mZ ma mc mP (.tmp nT mL .nil)) rfl mr (by decide) trivial
  · rw [hj] at hc h1
    refine dr_call wN mr mb mx (.cons (.cell (fWSS (wss := [f, s]) mr rfl)) .nil) hc (Nat.le_of_ble_eq_true rfl) mv mT mN ?_
    repeat refine dr_act wN mb ma mc mT mR ?_
    refine dr_nil (h1 _ (ev_ret ?_)); clear h1
    exact retL [352] (res' := [.cell 8 98, .tmp 9]) mr (.cell nT mZ ma mc mP (.tmp nT mL .nil)) rfl mr (by decide) ⟨⟨mr, okRW⟩, trivial⟩

abbrev v8 (b : Int) : V := .val (.int .u8 b)

/-- Whether a rope has the byte. -/
def wtB (m : List (List Int)) (ws : List Win) (i : Int) : Bool := okR m ws && decide (0 ≤ i ∧ i ≤ lenR ws - 1)
/-- A rope with another byte. -/
def wtR (m : List (List Int)) (ws : List Win) (i b : Int) : Option (List (List Int) × List Win) :=
  if wtB m ws i = true then
    match delR m ws i (i + 1) with
    | none => none
    | some ws1 => insR m ws1 i [b]
  else none

theorem delR_len {m : List (List Int)} {ws r : List Win} {i j : Int} (h : delR m ws i j = some r) : r.length ≤ 12 := by
  unfold delR at h
  split at h
  · unfold jnd at h
    split at h
    · rename_i hl; cases h; exact hl
    · cases h
  · cases h

theorem fBl {R : Rs} {n ty k : Nat} {xs : List Int} (h : R n = some ⟨ty, 1, xs.map cB⟩) (hk : k = xs.length) : FrzC R (.ref (n, none) 0 k) (eB xs) :=
  fB (act_of h) (by rw [hk, List.drop_zero, List.take_length])

theorem c67 (m : List (List Int)) (ws : List Win) (i b : Int) (hl1 : m.length ≤ 1048576) (hl2 : ∀ r, r ∈ m → r.length ≤ 1048576) (hw : ws.length ≤ 1048576) : Good Try.prog 67 [eMem m, eR ws, vi i, v8 b] (oMR (wtR m ws i b)) (rMR (wtR m ws i b)) := by
  refine good_of (E := En 49) (fn := Try.f67) (by kernel_rfl) (by kernel_rfl) rfl rfl (by simp only [List.length_cons, List.length_nil]; decide) (fun C0 => ?_)
  simp only [argT, Nat.reduceAdd]
  refine ev_seq fun K1 h1 => ev_rf mB ?_
  repeat refine dr_act wN mb ma mc mT mR ?_
  refine dr_nil (h1 _ ?_); clear h1 K1
  refine ev_seq fun K1 h1 => ?_
  refine ev_cut ⟨[(2, vi i), (3, v8 b), (4, .ptr (0, none) 0 0), (5, .ptr (8, none) 0 0), (8, .ptr (16, none) 0 0), (9, .ptr (24, none) 0 0), (24, vb (!wtB m ws i))], [(0, ⟨31, 1, [[eM m]]⟩), (8, ⟨98, 1, [[eWS ws]]⟩), (16, ⟨31, 1, [[.val (.slice none 0 0)]]⟩), (24, ⟨98, 1, [[.val (.slice none 0 0)]]⟩)], 200⟩ (ev_rf mB ?_) ?_
  · repeat refine dr_act wN mb ma mc mT mR ?_
    refine dr_callF wN mr mb mx mr (c132 m ws hl1 hl2 hw) (Nat.le_of_ble_eq_true rfl) mv mT mN ?_
    cases hR : okR m ws
    · repeat refine dr_act wN mb ma mc mT mR ?_
      iterate 6 refine dr_skip wG mT ?_
      repeat refine dr_act wN mb ma mc mT mR ?_
      rw [show wtB m ws i = false by simp [wtB, hR]]
      exact dr_nil (show Weak (En 49) C0 _ _ from weak_ren [] mK mK mD mQ)
    have hL := lenR_le ws (okR_n hR)
    have w1 : IntKind.i64.wrap (lenR ws - 1) = lenR ws - 1 := wrap_of (by omega) (by omega)
    repeat refine dr_act wN mb ma mc mT mR ?_
    iterate 2 refine dr_act wG mb ma mc mT mR ?_
    refine dr_callF wG mr mb mx mr (c134 ws hw (okR_n hR)) (Nat.le_of_ble_eq_true rfl) mv mT mN ?_
    refine dr_act wG mb ma mc mT mR ?_
    rw [w1]
    refine dr_callF wG mr mb mx mr (c133 i 0 (lenR ws - 1)) (Nat.le_of_ble_eq_true rfl) mv mT mN ?_
    refine dr_act wG mb ma mc mT mR ?_
    repeat refine dr_act wN mb ma mc mT mR ?_
    rw [show wtB m ws i = decide (0 ≤ i ∧ i ≤ lenR ws - 1) by simp [wtB, hR]]
    exact dr_nil (show Weak (En 49) C0 _ _ from weak_ren [] mK mK mD mQ)
  cases hC : wtB m ws i
  · have e : wtR m ws i b = none := by rw [wtR, if_neg (by rw [hC]; decide)]
    rw [e] at h1 ⊢
    refine ev_cond true mlq (fun h => ?_) (fun h => by cases h)
    refine ev_seq fun K2 h2 => ev_rf mB ?_
    repeat refine dr_act wN mb ma mc mT mR ?_
    refine dr_nil (h2 _ (ev_ret ?_)); clear h2 h1
    exact retL [] (res' := [.cell 8 31, .cell 9 98, .tmp 10]) mr (.cell nT mZ ma mc mP (.cell nT mZ ma mc mP (.tmp nT mL .nil))) rfl mr (by decide) trivial
  have e : wtR m ws i b = match delR m ws i (i + 1) with
    | none => none
    | some ws1 => insR m ws1 i [b] := by rw [wtR, if_pos hC]
  have hi : 0 ≤ i ∧ i ≤ 1048576 * 64 := by
    simp only [wtB, Bool.and_eq_true, decide_eq_true_eq] at hC
    have := lenR_le ws (okR_n hC.1)
    omega
  have w1 : IntKind.i64.wrap (i + 1) = i + 1 := wrap_of (by omega) (by omega)
  refine ev_cond false mlq (fun h => by cases h) (fun h => ev_skip (h1 _ ?_)); clear h1
  have k1 := c135 m ws i (i + 1) hl1 hl2 hw
  refine ev_seq fun K1 h1 => ev_rf mB ?_
  repeat refine dr_act wN mb ma mc mT mR ?_
  rw [w1]
  rcases hd : delR m ws i (i + 1) with _ | ws1
  · rw [hd] at k1 e
    rw [e] at h1 ⊢
    refine dr_callF wN mr mb mx mr k1 (Nat.le_of_ble_eq_true rfl) mv mT mN ?_
    repeat refine dr_act wN mb ma mc mT mR ?_
    refine dr_nil (h1 _ ?_); clear h1
    refine ev_seq fun K1 h1 => ?_
    refine ev_seq fun K2 h2 => ev_rf mB ?_
    repeat refine dr_act wN mb ma mc mT mR ?_
    refine dr_nil (h2 _ ?_); clear h2
    refine ev_cond true mlq (fun h => ?_) (fun h => by cases h)
    refine ev_seq fun K2 h2 => ev_rf mB ?_
    repeat refine dr_act wN mb ma mc mT mR ?_
    refine dr_nil (h2 _ (ev_ret ?_)); clear h2 h1
    exact retL [] (res' := [.cell 8 31, .cell 9 98, .tmp 10]) mr (.cell nT mZ ma mc mP (.cell nT mZ ma mc mP (.tmp nT mL .nil))) rfl mr (by decide) trivial
  have hw1 := delR_len hd
  rw [hd] at k1 e
  simp only [] at e
  rw [e] at h1 ⊢
  refine dr_callF wN mr mb mx mr k1 (Nat.le_of_ble_eq_true rfl) mv mT mN ?_
  repeat refine dr_act wN mb ma mc mT mR ?_
  refine dr_nil (h1 _ ?_); clear h1
  refine ev_seq fun K1 h1 => ?_
  refine ev_seq fun K2 h2 => ev_rf mB ?_
  repeat refine dr_act wN mb ma mc mT mR ?_
  refine dr_nil (h2 _ ?_); clear h2
  refine ev_cond false mlq (fun h => by cases h) (fun h => ev_skip (h1 _ ?_)); clear h1
  have k2 := c57 m ws1 i [b] hl1 hl2 (by omega) (by simp)
  rcases hn : insR m ws1 i [b] with _ | ⟨m2, ws2⟩
  · rw [hn] at k2
    refine ev_seq fun K1 h1 => ev_rf mB ?_
    repeat refine dr_act wN mb ma mc mT mR ?_
    refine dr_call wN mr mb mx (.cons (fN rfl) (.cons (fR mr) (.cons (fN rfl) (.cons (.cell (fBl mr rfl)) .nil)))) k2 (Nat.le_of_ble_eq_true rfl) mv mT mN ?_
    repeat refine dr_act wN mb ma mc mT mR ?_
    refine dr_nil (h1 _ (ev_ret ?_)); clear h1
    exact retL [] (res' := [.cell 8 31, .cell 9 98, .tmp 10]) mr (.cell nT mZ ma mc mP (.cell nT mZ ma mc mP (.tmp nT mL .nil))) rfl mr (by decide) trivial
  · rw [hn] at k2
    refine ev_seq fun K1 h1 => ev_rf mB ?_
    repeat refine dr_act wN mb ma mc mT mR ?_
    refine dr_call wN mr mb mx (.cons (fN rfl) (.cons (fR mr) (.cons (fN rfl) (.cons (.cell (fBl mr rfl)) .nil)))) k2 (Nat.le_of_ble_eq_true rfl) mv mT mN ?_
    repeat refine dr_act wN mb ma mc mT mR ?_
    refine dr_nil (h1 _ (ev_ret ?_)); clear h1
    exact retL [352, 353] (res' := [.cell 8 31, .cell 9 98, .tmp 10]) mr (.cell nT mZ ma mc mP (.cell nT mZ ma mc mP (.tmp nT mL .nil))) rfl mr (by decide) ⟨⟨mr, okRM⟩, ⟨mr, okRW⟩, trivial⟩

theorem c68 (m : List (List Int)) (ws : List Win) (i b : Int) (hl1 : m.length ≤ 1048576) (hl2 : ∀ r, r ∈ m → r.length ≤ 1048576) (hw : ws.length ≤ 1048576) : Good Try.prog 68 [eMem m, eR ws, vi i, v8 b] (oMR (wtR m ws i b)) (rMR (wtR m ws i b)) := by
  refine good_of (E := En 49) (fn := Try.f68) (by kernel_rfl) (by kernel_rfl) rfl rfl (by simp only [List.length_cons, List.length_nil]; decide) (fun C0 => ?_)
  simp only [argT, Nat.reduceAdd]
  refine ev_seq fun K1 h1 => ev_rf mB ?_
  repeat refine dr_act wN mb ma mc mT mR ?_
  refine dr_nil (h1 _ ?_); clear h1 K1
  refine ev_seq fun K1 h1 => ?_
  refine ev_cut ⟨[(2, vi i), (3, v8 b), (4, .ptr (0, none) 0 0), (5, .ptr (8, none) 0 0), (8, .ptr (16, none) 0 0), (9, .ptr (24, none) 0 0), (24, vb (!wtB m ws i))], [(0, ⟨31, 1, [[eM m]]⟩), (8, ⟨98, 1, [[eWS ws]]⟩), (16, ⟨31, 1, [[.val (.slice none 0 0)]]⟩), (24, ⟨98, 1, [[.val (.slice none 0 0)]]⟩)], 200⟩ (ev_rf mB ?_) ?_
  · repeat refine dr_act wN mb ma mc mT mR ?_
    refine dr_callF wN mr mb mx mr (c122 m ws hl1 hl2 hw) (Nat.le_of_ble_eq_true rfl) mv mT mN ?_
    cases hR : okR m ws
    · repeat refine dr_act wN mb ma mc mT mR ?_
      iterate 6 refine dr_skip wG mT ?_
      repeat refine dr_act wN mb ma mc mT mR ?_
      rw [show wtB m ws i = false by simp [wtB, hR]]
      exact dr_nil (show Weak (En 49) C0 _ _ from weak_ren [] mK mK mD mQ)
    have hL := lenR_le ws (okR_n hR)
    have w1 : IntKind.i64.wrap (lenR ws - 1) = lenR ws - 1 := wrap_of (by omega) (by omega)
    repeat refine dr_act wN mb ma mc mT mR ?_
    iterate 2 refine dr_act wG mb ma mc mT mR ?_
    refine dr_callF wG mr mb mx mr (c124 ws hw (okR_n hR)) (Nat.le_of_ble_eq_true rfl) mv mT mN ?_
    refine dr_act wG mb ma mc mT mR ?_
    rw [w1]
    refine dr_callF wG mr mb mx mr (c123 i 0 (lenR ws - 1)) (Nat.le_of_ble_eq_true rfl) mv mT mN ?_
    refine dr_act wG mb ma mc mT mR ?_
    repeat refine dr_act wN mb ma mc mT mR ?_
    rw [show wtB m ws i = decide (0 ≤ i ∧ i ≤ lenR ws - 1) by simp [wtB, hR]]
    exact dr_nil (show Weak (En 49) C0 _ _ from weak_ren [] mK mK mD mQ)
  cases hC : wtB m ws i
  · have e : wtR m ws i b = none := by rw [wtR, if_neg (by rw [hC]; decide)]
    rw [e] at h1 ⊢
    refine ev_cond true mlq (fun h => ?_) (fun h => by cases h)
    refine ev_seq fun K2 h2 => ev_rf mB ?_
    repeat refine dr_act wN mb ma mc mT mR ?_
    refine dr_nil (h2 _ (ev_ret ?_)); clear h2 h1
    exact retL [] (res' := [.cell 8 31, .cell 9 98, .tmp 10]) mr (.cell nT mZ ma mc mP (.cell nT mZ ma mc mP (.tmp nT mL .nil))) rfl mr (by decide) trivial
  have e : wtR m ws i b = match delR m ws i (i + 1) with
    | none => none
    | some ws1 => insR m ws1 i [b] := by rw [wtR, if_pos hC]
  have hi : 0 ≤ i ∧ i ≤ 1048576 * 64 := by
    simp only [wtB, Bool.and_eq_true, decide_eq_true_eq] at hC
    have := lenR_le ws (okR_n hC.1)
    omega
  have w1 : IntKind.i64.wrap (i + 1) = i + 1 := wrap_of (by omega) (by omega)
  refine ev_cond false mlq (fun h => by cases h) (fun h => ev_skip (h1 _ ?_)); clear h1
  have k1 := c136 m ws i (i + 1) hl1 hl2 hw
  refine ev_seq fun K1 h1 => ev_rf mB ?_
  repeat refine dr_act wN mb ma mc mT mR ?_
  rw [w1]
  rcases hd : delR m ws i (i + 1) with _ | ws1
  · rw [hd] at k1 e
    rw [e] at h1 ⊢
    refine dr_callF wN mr mb mx mr k1 (Nat.le_of_ble_eq_true rfl) mv mT mN ?_
    repeat refine dr_act wN mb ma mc mT mR ?_
    refine dr_nil (h1 _ ?_); clear h1
    refine ev_seq fun K1 h1 => ?_
    refine ev_seq fun K2 h2 => ev_rf mB ?_
    repeat refine dr_act wN mb ma mc mT mR ?_
    refine dr_nil (h2 _ ?_); clear h2
    refine ev_cond true mlq (fun h => ?_) (fun h => by cases h)
    refine ev_seq fun K2 h2 => ev_rf mB ?_
    repeat refine dr_act wN mb ma mc mT mR ?_
    refine dr_nil (h2 _ (ev_ret ?_)); clear h2 h1
    exact retL [] (res' := [.cell 8 31, .cell 9 98, .tmp 10]) mr (.cell nT mZ ma mc mP (.cell nT mZ ma mc mP (.tmp nT mL .nil))) rfl mr (by decide) trivial
  have hw1 := delR_len hd
  rw [hd] at k1 e
  simp only [] at e
  rw [e] at h1 ⊢
  refine dr_callF wN mr mb mx mr k1 (Nat.le_of_ble_eq_true rfl) mv mT mN ?_
  repeat refine dr_act wN mb ma mc mT mR ?_
  refine dr_nil (h1 _ ?_); clear h1
  refine ev_seq fun K1 h1 => ?_
  refine ev_seq fun K2 h2 => ev_rf mB ?_
  repeat refine dr_act wN mb ma mc mT mR ?_
  refine dr_nil (h2 _ ?_); clear h2
  refine ev_cond false mlq (fun h => by cases h) (fun h => ev_skip (h1 _ ?_)); clear h1
  have k2 := c60 m ws1 i [b] hl1 hl2 (by omega) (by simp)
  rcases hn : insR m ws1 i [b] with _ | ⟨m2, ws2⟩
  · rw [hn] at k2
    refine ev_seq fun K1 h1 => ev_rf mB ?_
    repeat refine dr_act wN mb ma mc mT mR ?_
    refine dr_call wN mr mb mx (.cons (fN rfl) (.cons (fR mr) (.cons (fN rfl) (.cons (.cell (fBl mr rfl)) .nil)))) k2 (Nat.le_of_ble_eq_true rfl) mv mT mN ?_
    repeat refine dr_act wN mb ma mc mT mR ?_
    refine dr_nil (h1 _ (ev_ret ?_)); clear h1
    exact retL [] (res' := [.cell 8 31, .cell 9 98, .tmp 10]) mr (.cell nT mZ ma mc mP (.cell nT mZ ma mc mP (.tmp nT mL .nil))) rfl mr (by decide) trivial
  · rw [hn] at k2
    refine ev_seq fun K1 h1 => ev_rf mB ?_
    repeat refine dr_act wN mb ma mc mT mR ?_
    refine dr_call wN mr mb mx (.cons (fN rfl) (.cons (fR mr) (.cons (fN rfl) (.cons (.cell (fBl mr rfl)) .nil)))) k2 (Nat.le_of_ble_eq_true rfl) mv mT mN ?_
    repeat refine dr_act wN mb ma mc mT mR ?_
    refine dr_nil (h1 _ (ev_ret ?_)); clear h1
    exact retL [352, 353] (res' := [.cell 8 31, .cell 9 98, .tmp 10]) mr (.cell nT mZ ma mc mP (.cell nT mZ ma mc mP (.tmp nT mL .nil))) rfl mr (by decide) ⟨⟨mr, okRM⟩, ⟨mr, okRW⟩, trivial⟩
end Go.Ev
