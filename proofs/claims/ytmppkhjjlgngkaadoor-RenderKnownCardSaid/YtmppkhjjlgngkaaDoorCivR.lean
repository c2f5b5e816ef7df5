/- The walks of the calendar's reference (quitrentref08). -/
import Derived.Test.YtmppkhjjlgngkaaDoorCivI
namespace Go.Proofs.YtmppkhjjlgngkaaDoor
open Go.RowKit Civ
set_option linter.unusedVariables false
set_option linter.unusedSimpArgs false
def longR (y m : Int) : Int := if m = 2 then (if leapB y = true then 29 else 28) else if m = 4 ∨ m = 6 ∨ m = 9 ∨ m = 11 then 30 else 31
theorem longR_eq (y m : Int) (h1 : 1 ≤ y) (h2 : y ≤ 9999) (h3 : 1 ≤ m) (h4 : m ≤ 12) : longR y m = lenM (12 * y + m - 1) := by
  obtain ⟨k, hk, rfl⟩ : ∃ k : Nat, k < 12 ∧ m = k + 1 := ⟨(m - 1).toNat, by omega, by omega⟩
  rw [show 12 * y + ((k : Int) + 1) - 1 = 12 * y + k from by omega, lenM_at y k h1 h2 hk]
  unfold longR leapI
  rw [leapB_eq y (by omega)]
  have : k = 0 ∨ k = 1 ∨ k = 2 ∨ k = 3 ∨ k = 4 ∨ k = 5 ∨ k = 6 ∨ k = 7 ∨ k = 8 ∨ k = 9 ∨ k = 10 ∨ k = 11 := by omega
  rcases this with rfl | rfl | rfl | rfl | rfl | rfl | rfl | rfl | rfl | rfl | rfl | rfl <;> simp [lenL]
  split <;> omega
theorem longR_bd (y m : Int) : 28 ≤ longR y m ∧ longR y m ≤ 31 := by
  unfold longR
  split
  · split <;> omega
  · split <;> omega
def daysR (y : Int) : Int := if leapB y = true then 366 else 365
theorem daysR_eq (y : Int) (h : 0 ≤ y) : daysR y = 365 + leapI y := by
  unfold daysR leapI
  rw [leapB_eq y h]
  by_cases c : y % 4 = 0 ∧ (y % 100 ≠ 0 ∨ y % 400 = 0) <;> simp [c]
theorem daysR_bd (y : Int) : 365 ≤ daysR y ∧ daysR y ≤ 366 := by unfold daysR; split <;> omega
theorem daysR_succ (y : Int) (h : 0 ≤ y) : yearsF (y + 1) = yearsF y + daysR y := by rw [yearsF_succ, daysR_eq y h]; omega
set_option maxHeartbeats 400000 in
theorem rleap_any (y : Int) (w : World) : Calls Tryd.prog 39 #[.int .i64 y] w fun e w' => e = .returned (.bool (leapB y)) ∧ w = w' := by
  have H : Hid (∀ b : Bool, leapB y = b ↔ b = ((y.tmod 4 == 0) && ((y.tmod 100 != 0) || (y.tmod 400 == 0)))) := fun b => by unfold leapB; exact eq_comm
  have H4 : Hid (y.tmod 400 = 0 → y.tmod 4 = 0) := fun h => Int.tmod_eq_zero_of_dvd (Int.dvd_trans (by decide) (Int.dvd_of_tmod_eq_zero h))
  go_enter Tryd.func39, Tryd.ntmps39
  go_wp2
  all_goals (go_ret; refine ⟨ret_bool ?_, rfl⟩; refine ((H.out _).2 ?_).symm)
  · have h400 : y.tmod 400 = 0 := by simpa using ‹(y.tmod 400 == 0) = true›
    simp [h400, H4.out h400]
  · simp [*]
  · simp [*]
set_option maxHeartbeats 400000 in
theorem rlong_any (y m : Int) (w : World) : Calls Tryd.prog 26 #[.int .i64 y, .int .i64 m] w fun e w' => e = .returned (.int .i64 (longR y m)) ∧ w = w' := by
  have H : Hid (longR y m = if m = 2 then (if leapB y = true then 29 else 28) else if m = 4 ∨ m = 6 ∨ m = 9 ∨ m = 11 then 30 else 31) := rfl
  by_cases h2 : m = 2
  · cases hl : leapB y
    all_goals
      have HL := Lib.hid hl
      clear hl
      go_enter Tryd.func26, Tryd.ntmps26
      go_wp2_with (go_at_call 39; refine (rleap_any _ _).mono ?_; rintro e w' ⟨rfl, rfl⟩; rw [HL.out])
      all_goals (go_ret; exact ⟨ret_int (by rw [H.out, HL.out]; simp [h2]), rfl⟩)
  · go_enter Tryd.func26, Tryd.ntmps26
    go_wp2
    all_goals (go_ret; refine ⟨ret_int ?_, rfl⟩; rw [H.out, if_neg h2])
    all_goals (simp only [beq_iff_eq, beq_eq_false_iff_ne, ne_eq] at *; simp [*])
theorem rlength_eq (m : Int) (h1 : 12 ≤ m) (h2 : m < 120000) : longR (m / 12) (m % 12 + 1) = lenM m := by
  rw [longR_eq _ _ (by omega) (by omega) (by omega) (by omega), show 12 * (m / 12) + (m % 12 + 1) - 1 = m from by omega]
set_option maxHeartbeats 400000 in
theorem rlength_any (m : Int) (w : World) : Calls Tryd.prog 14 #[.int .i64 m] w fun e w' => e = .returned (.int .i64 (lenM m)) ∧ w = w' := by
  rcases (show m < 12 ∨ (12 ≤ m ∧ 119999 < m) ∨ (12 ≤ m ∧ m ≤ 119999) by omega) with h | ⟨h, h'⟩ | ⟨h, h'⟩
  · have H0 := Lib.hid (lenM_no (m := m) (by omega))
    go_enter Tryd.func14, Tryd.ntmps14
    go_wp2
    go_ret
    exact ⟨ret_int H0.out.symm, rfl⟩
  · have H0 := Lib.hid (lenM_no (m := m) (by omega))
    go_enter Tryd.func14, Tryd.ntmps14
    go_wp2
    go_ret
    exact ⟨ret_int H0.out.symm, rfl⟩
  · have H0 := Lib.hid (rlength_eq m h (by omega))
    go_enter Tryd.func14, Tryd.ntmps14
    go_wp2_with (go_at_call 26; refine (rlong_any _ _ _).mono ?_; rintro e w' ⟨rfl, rfl⟩)
    go_ret
    exact ⟨ret_int H0.out, rfl⟩
theorem first_date {m : Int} (h1 : 12 ≤ m) (h2 : m < 120000) : Vld (m / 12) (m % 12 + 1) 1 ∧ numD (m / 12) (m % 12 + 1) 1 = firstM m := by
  have hl := lenM_bd m h1 h2
  unfold Vld numD
  rw [show 12 * (m / 12) + (m % 12 + 1) - 1 = m from by omega]
  omega
theorem ext_dig (x : Nat) : (⟨#[48, 49, 50, 51, 52, 53, 54, 55, 56, 57]⟩ : ByteArray).extract (x % 10) (x % 10 + 1) = ⟨[dgt x].toArray⟩ := by
  have h : x % 10 < 10 := by omega
  unfold dgt
  generalize x % 10 = k at h
  have : ∀ k : Nat, k < 10 → (⟨#[48, 49, 50, 51, 52, 53, 54, 55, 56, 57]⟩ : ByteArray).extract k (k + 1) = ⟨[UInt8.ofNat (48 + k)].toArray⟩ := by decide
  exact this k h
theorem dg4_two {y : Nat} (h : y ≤ 9999) : dg2 (y / 100) ++ dg2 (y % 100) = dg4 y := by
  simp only [dg2, dg4, List.cons_append, List.nil_append, Nat.div_div_eq_div_mul, List.cons.injEq, and_true, true_and]
  refine ⟨?_, ?_⟩ <;> unfold dgt <;> congr 2 <;> omega
end Go.Proofs.YtmppkhjjlgngkaaDoor
