/- The walks of the calendar's reference (quitrentref08). -/
import Derived.Test.YtmppkhjjlgngkaaGreatDoorCivI
namespace Go.Proofs.YtmppkhjjlgngkaaGreatDoor
open Go.RowKit Civ
set_option linter.unusedVariables false
set_option linter.unusedSimpArgs false
def longR (y m : Int) : Int := if m = 2 then (if leapB y = true then 29 else 28) else if m = 4 ∨ m = 6 ∨ m = 9 ∨ m = 11 then 30 else 31
theorem longR_eq (y m : Int) (h1 : 1 ≤ y) (h2 : y ≤ 9999) (h3 : 1 ≤ m) (h4 : m ≤ 12) : longR y m = lenM (12 * y + m - 1) := by
  obtain ⟨k, hk, rfl⟩ : ∃ k : Nat, k < 12 ∧ m = k + 1 := ⟨(m - 1).toNat, by omega, by omega⟩
  rw [show 12 * y + ((k : Int) + 1) - 1 = 12 * y + k from by omega, lenM_at y k h1 h2 hk]
  unfold longR leapI
  rw [leapB_eq y (by omega)]
  have : k = 0 ∨ k = 1 ∨ k = 2 ∨ k = 3 ∨ k = 4 ∨ k = 5 ∨ k = 6 ∨ k = 7 ∨ k = 8 ∨ k = 9 ∨ k = 10 ∨ k = 11 := by omega
  rcases this with rfl | rfl | rfl | rfl | rfl | rfl | rfl | rfl | rfl | rfl | rfl | rfl <;> simp [lenL]
  split <;> omega
theorem longR_bd (y m : Int) : 28 ≤ longR y m ∧ longR y m ≤ 31 := by
  unfold longR
  split
  · split <;> omega
  · split <;> omega
def daysR (y : Int) : Int := if leapB y = true then 366 else 365
theorem daysR_eq (y : Int) (h : 0 ≤ y) : daysR y = 365 + leapI y := by
  unfold daysR leapI
  rw [leapB_eq y h]
  by_cases c : y % 4 = 0 ∧ (y % 100 ≠ 0 ∨ y % 400 = 0) <;> simp [c]
theorem daysR_bd (y : Int) : 365 ≤ daysR y ∧ daysR y ≤ 366 := by unfold daysR; split <;> omega
theorem daysR_succ (y : Int) (h : 0 ≤ y) : yearsF (y + 1) = yearsF y + daysR y := by rw [yearsF_succ, daysR_eq y h]; omega
set_option maxHeartbeats 400000 in
theorem rleap_any (y : Int) (w : World) : Calls Tryz.prog 49 #[.int .i64 y] w fun e w' => e = .returned (.bool (leapB y)) ∧ w = w' := by
  have H : Hid (∀ b : Bool, leapB y = b ↔ b = ((y.tmod 4 == 0) && ((y.tmod 100 != 0) || (y.tmod 400 == 0)))) := fun b => by unfold leapB; exact eq_comm
  have H4 : Hid (y.tmod 400 = 0 → y.tmod 4 = 0) := fun h => Int.tmod_eq_zero_of_dvd (Int.dvd_trans (by decide) (Int.dvd_of_tmod_eq_zero h))
  go_enter Tryz.func49, Tryz.ntmps49
  go_wp2
  all_goals (go_ret; refine ⟨ret_bool ?_, rfl⟩; refine ((H.out _).2 ?_).symm)
  · have h400 : y.tmod 400 = 0 := by simpa using ‹(y.tmod 400 == 0) = true›
    simp [h400, H4.out h400]
  · simp [*]
  · simp [*]
set_option maxHeartbeats 400000 in
theorem rlong_any (y m : Int) (w : World) : Calls Tryz.prog 27 #[.int .i64 y, .int .i64 m] w fun e w' => e = .returned (.int .i64 (longR y m)) ∧ w = w' := by
  have H : Hid (longR y m = if m = 2 then (if leapB y = true then 29 else 28) else if m = 4 ∨ m = 6 ∨ m = 9 ∨ m = 11 then 30 else 31) := rfl
  by_cases h2 : m = 2
  · cases hl : leapB y
    all_goals
      have HL := Lib.hid hl
      clear hl
      go_enter Tryz.func27, Tryz.ntmps27
      go_wp2_with (go_at_call 49; refine (rleap_any _ _).mono ?_; rintro e w' ⟨rfl, rfl⟩; rw [HL.out])
      all_goals (go_ret; exact ⟨ret_int (by rw [H.out, HL.out]; simp [h2]), rfl⟩)
  · go_enter Tryz.func27, Tryz.ntmps27
    go_wp2
    all_goals (go_ret; refine ⟨ret_int ?_, rfl⟩; rw [H.out, if_neg h2])
    all_goals (simp only [beq_iff_eq, beq_eq_false_iff_ne, ne_eq] at *; simp [*])
theorem rlength_eq (m : Int) (h1 : 12 ≤ m) (h2 : m < 120000) : longR (m / 12) (m % 12 + 1) = lenM m := by
  rw [longR_eq _ _ (by omega) (by omega) (by omega) (by omega), show 12 * (m / 12) + (m % 12 + 1) - 1 = m from by omega]
set_option maxHeartbeats 400000 in
theorem rlength_any (m : Int) (w : World) : Calls Tryz.prog 12 #[.int .i64 m] w fun e w' => e = .returned (.int .i64 (lenM m)) ∧ w = w' := by
  rcases (show m < 12 ∨ (12 ≤ m ∧ 119999 < m) ∨ (12 ≤ m ∧ m ≤ 119999) by omega) with h | ⟨h, h'⟩ | ⟨h, h'⟩
  · have H0 := Lib.hid (lenM_no (m := m) (by omega))
    go_enter Tryz.func12, Tryz.ntmps12
    go_wp2
    go_ret
    exact ⟨ret_int H0.out.symm, rfl⟩
  · have H0 := Lib.hid (lenM_no (m := m) (by omega))
    go_enter Tryz.func12, Tryz.ntmps12
    go_wp2
    go_ret
    exact ⟨ret_int H0.out.symm, rfl⟩
  · have H0 := Lib.hid (rlength_eq m h (by omega))
    go_enter Tryz.func12, Tryz.ntmps12
    go_wp2_with (go_at_call 27; refine (rlong_any _ _ _).mono ?_; rintro e w' ⟨rfl, rfl⟩)
    go_ret
    exact ⟨ret_int H0.out, rfl⟩
set_option maxHeartbeats 400000 in
theorem rdays_any (y : Int) (w : World) : Calls Tryz.prog 36 #[.int .i64 y] w fun e w' => e = .returned (.int .i64 (daysR y)) ∧ w = w' := by
  cases hl : leapB y
  all_goals
    have HL := Lib.hid hl
    clear hl
    go_enter Tryz.func36, Tryz.ntmps36
    go_wp2_with (go_at_call 49; refine (rleap_any _ _).mono ?_; rintro e w' ⟨rfl, rfl⟩; rw [HL.out])
    all_goals (go_ret; exact ⟨ret_int (by simp [daysR, HL.out]), rfl⟩)
set_option maxHeartbeats 400000 in
theorem rvalid_any (y m d : Int) (w : World) : Calls Tryz.prog 38 #[.agg #[.int .i64 y, .int .i64 m, .int .i64 d]] w fun e w' => e = .returned (.bool (vldB y m d)) ∧ Below w.heap.size w w' := by
  have HB := Lib.hid ((Below.refl w.heap.size w).alloc (Nat.le_refl _) (.cells #[.int .i64 y, .int .i64 m, .int .i64 d] 33))
  have HV : Hid (vldB y m d = decide (1 ≤ y ∧ y ≤ 9999 ∧ 1 ≤ m ∧ m ≤ 12 ∧ 1 ≤ d ∧ d ≤ lenM (12 * y + m - 1))) := rfl
  have HG : Hid (1 ≤ y → y ≤ 9999 → 1 ≤ m → m ≤ 12 → longR y m = lenM (12 * y + m - 1)) := fun h1 h2 h3 h4 => longR_eq y m h1 h2 h3 h4
  have hc : (¬ 0 < y ∧ decide (0 < y) = false) ∨ (0 < y ∧ ¬ y < 10000 ∧ decide (y < 10000) = false) ∨ (0 < y ∧ y < 10000 ∧ ¬ 0 < m ∧ decide (0 < m) = false) ∨ (0 < y ∧ y < 10000 ∧ 0 < m ∧ ¬ m < 13 ∧ decide (m < 13) = false) ∨ (0 < y ∧ y < 10000 ∧ 0 < m ∧ m < 13 ∧ ¬ 0 < d ∧ decide (0 < d) = false) ∨ (0 < y ∧ y < 10000 ∧ 0 < m ∧ m < 13 ∧ 0 < d) := by
    simp only [decide_eq_false_iff_not]; omega
  rcases hc with ⟨c1, d1⟩ | ⟨c1, c2, d1⟩ | ⟨c1, c2, c3, d1⟩ | ⟨c1, c2, c3, c4, d1⟩ | ⟨c1, c2, c3, c4, c5, d1⟩ | ⟨c1, c2, c3, c4, c5⟩
  all_goals
    go_enter Tryz.func38, Tryz.ntmps38
    go_wp2
    go_quiet ((go_at_call 27; exact Calls.quiet_of_same ((rlong_any _ _ _).mono fun e w' ⟨h1, h2⟩ => ⟨h1, h2.symm⟩)))
    go_wp2
    go_ret
    refine ⟨ret_bool ?_, World.below_drewN HB.out _⟩
    rw [HV.out]
  · exact (decide_eq_false (by omega)).symm
  · exact (decide_eq_false (by omega)).symm
  · exact (decide_eq_false (by omega)).symm
  · exact (decide_eq_false (by omega)).symm
  · exact (decide_eq_false (by omega)).symm
  · rw [HG.out (by omega) (by omega) (by omega) (by omega)]
    exact decide_eq_decide.2 (by omega)
set_option maxHeartbeats 400000 in
theorem rday_no (y m d : Int) (w : World) (hv : ¬ Vld y m d) : Calls Tryz.prog 35 #[.agg #[.int .i64 y, .int .i64 m, .int .i64 d]] w fun e w' => e = .returned (.tuple #[.int .i64 0, .int .i64 1]) ∧ Below w.heap.size w w' := by
  have HV := Lib.hid (vldB_f.2 hv)
  clear hv
  go_enter Tryz.func35, Tryz.ntmps35
  go_wp2_with (go_at_call 38; refine (rvalid_any _ _ _ _).mono ?_; rintro e w' ⟨rfl, hb⟩; rw [HV.out]; have HB := Lib.hid hb; clear hb)
  go_ret2
  exact ⟨rfl, below_box (Hid.out (by assumption))⟩
set_option maxHeartbeats 2000000 in
theorem rday_yes (y m d : Int) (w : World) (hv : Vld y m d) : Calls Tryz.prog 35 #[.agg #[.int .i64 y, .int .i64 m, .int .i64 d]] w fun e w' => e = .returned (.tuple #[.int .i64 (numD y m d), .int .i64 0]) ∧ Below w.heap.size w w' := by
  have HV := Lib.hid (vldB_t.2 hv)
  have hk := hv.d31
  obtain ⟨h1, h2, h3, h4, h5, h6⟩ := hv
  have HN : Hid (numD y m d = d - 1 + cum y (m - 1).toNat + (yearsF y - 719162)) := by
    unfold Hid numD
    have := firstM_at y (m - 1).toNat (by omega)
    rw [show 12 * y + (((m - 1).toNat : Nat) : Int) = 12 * y + m - 1 from by omega] at this
    rw [this]; omega
  have HL : Hid (∀ k : Nat, 1 ≤ k → (k : Int) ≤ 12 → longR y k = lenM (12 * y + ((k - 1 : Nat) : Int))) := fun k k1 k2 => by
    rw [longR_eq y k h1 h2 (by omega) k2]; congr 1; omega
  clear h6
  go_enter Tryz.func35, Tryz.ntmps35
  go_wp2_with (go_at_call 38; refine (rvalid_any _ _ _ _).mono ?_; rintro e w' ⟨rfl, hb⟩; rw [HV.out]; have BB := Lib.hid (below_box hb); obtain ⟨a0, a1, a2⟩ := box3 hb; clear hb)
  have BB : Hid (Below w.heap.size w w') := by assumption
  go_loop [4, 5] (fun n k => ∃ j : Nat, 1 ≤ j ∧ (j : Int) ≤ m ∧ k = .int .i64 j ∧ n = .int .i64 (d - 1 + cum y (j - 1))) (fun _ k => (m - intOf k).toNat)
  case atStart => exact ⟨1, by omega, by omega, rfl, by simp [cum]⟩
  case round =>
    obtain ⟨j, hj1, hj2, rfl, rfl⟩ := hrel
    have hcb := cum_bd y (j - 1) (by omega)
    have hlb := longR_bd y j
    by_cases hlt : (j : Int) < m
    · have HS : Hid (cum y j = cum y (j - 1) + longR y j) := by
        unfold Hid
        obtain ⟨i, rfl⟩ : ∃ i, j = i + 1 := ⟨j - 1, by omega⟩
        rw [HL.out (i + 1) (by omega) (by omega)]
        rfl
      go_wp2_with (go_at_call 27; refine (rlong_any _ _ _).mono ?_; rintro e w' ⟨rfl, rfl⟩)
      refine ⟨⟨j + 1, by omega, by omega, by go_num, ?_⟩, by simp [intOf]; omega⟩
      rw [show j + 1 - 1 = j from rfl, HS.out]
      go_num
    · have hj : j = m.toNat := by omega
      have HJ : Hid (cum y (j - 1) = cum y (m - 1).toNat) := by unfold Hid; congr 1; omega
      rw [HJ.out] at hcb ⊢
      generalize cum y (m - 1).toNat = cm at *
      clear hlb
      go_wp2
      go_loop [4, 6] (fun n k => ∃ t : Int, 1970 ≤ t ∧ (t ≤ y ∨ t = 1970) ∧ k = .int .i64 t ∧ n = .int .i64 (d - 1 + cm + (yearsF t - 719162))) (fun _ k => (y - intOf k).toNat)
      case atStart => exact ⟨1970, by omega, by omega, rfl, by rw [show yearsF 1970 = 719162 from by decide]; simp⟩
      case round =>
        obtain ⟨t, ht1, ht2, rfl, rfl⟩ := hrel
        have hyb := yearsF_bd t (by omega) (by omega)
        have hdb := daysR_bd t
        by_cases hlt2 : t < y
        · have HS := Lib.hid (daysR_succ t (by omega))
          go_wp2_with (go_at_call 36; refine (rdays_any _ _).mono ?_; rintro e w' ⟨rfl, rfl⟩)
          exact ⟨⟨t + 1, by omega, by omega, rfl, by rw [HS.out]; go_num⟩, by simp [intOf]; omega⟩
        · clear hdb
          go_wp2
          go_loop [4, 6] (fun n k => ∃ t : Int, y ≤ t ∧ t ≤ 9999 ∧ k = .int .i64 t ∧ n = .int .i64 (d - 1 + cm + (yearsF t - 719162))) (fun _ k => (intOf k - y).toNat)
          case atStart => exact ⟨t, by omega, by omega, rfl, rfl⟩
          case round =>
            obtain ⟨z, hz1, hz2, rfl, rfl⟩ := hrel
            clear ht1 ht2 hyb hlt2
            have hyb := yearsF_bd z (by omega) (by omega)
            have hyc := yearsF_bd (z - 1 + 1) (by omega) (by omega)
            have hdb := daysR_bd (z - 1)
            by_cases hlt3 : y < z
            · have HS : Hid (yearsF z = yearsF (z - 1) + daysR (z - 1)) := by
                have := daysR_succ (z - 1) (by omega)
                rw [show z - 1 + 1 = z from by omega] at this
                exact this
              go_wp2_with (go_at_call 36; refine (rdays_any _ _).mono ?_; rintro e w' ⟨rfl, rfl⟩)
              refine ⟨⟨z - 1, by omega, by omega, rfl, ?_⟩, by simp [intOf]; omega⟩
              rw [HS.out]
              go_num
            · have HZ : Hid (d - 1 + cm + (yearsF z - 719162) = numD y m d) := by
                have := HN.out
                obtain rfl : z = y := by omega
                exact this.symm
              clear hdb hyc
              go_wp2
              go_ret2
              exact ⟨ret2 HZ.out rfl, BB.out⟩
theorem rday_num (y m d : Int) (w : World) : Calls Tryz.prog 35 #[.agg #[.int .i64 y, .int .i64 m, .int .i64 d]] w fun e w' => e = .returned (.tuple #[.int .i64 (if vldB y m d = true then numD y m d else 0), .int .i64 (if vldB y m d = true then 0 else 1)]) ∧ Below w.heap.size w w' := by
  cases hv : vldB y m d
  · exact rday_no y m d w (vldB_f.1 hv)
  · exact rday_yes y m d w (vldB_t.1 hv)
set_option maxHeartbeats 400000 in
theorem rfirst_no (m : Int) (w : World) (h : m < 12 ∨ 120000 ≤ m) : Calls Tryz.prog 16 #[.int .i64 m] w fun e w' => e = .returned (.tuple #[.int .i64 0, .int .i64 1]) ∧ Below w.heap.size w w' := by
  have H0 := Lib.hid (lenM_no h)
  clear h
  go_enter Tryz.func16, Tryz.ntmps16
  go_wp2_with (go_at_call 12; refine (rlength_any _ _).mono ?_; rintro e w' ⟨rfl, rfl⟩; rw [H0.out])
  go_ret2
  exact ⟨rfl, Below.refl _ _⟩
theorem first_date {m : Int} (h1 : 12 ≤ m) (h2 : m < 120000) : Vld (m / 12) (m % 12 + 1) 1 ∧ numD (m / 12) (m % 12 + 1) 1 = firstM m := by
  have hl := lenM_bd m h1 h2
  unfold Vld numD
  rw [show 12 * (m / 12) + (m % 12 + 1) - 1 = m from by omega]
  omega
set_option maxHeartbeats 400000 in
theorem rfirst_yes (m : Int) (w : World) (h1 : 12 ≤ m) (h2 : m < 120000) : Calls Tryz.prog 16 #[.int .i64 m] w fun e w' => e = .returned (.tuple #[.int .i64 (firstM m), .int .i64 0]) ∧ Below w.heap.size w w' := by
  have h0 := lenM_bd m h1 h2
  have HD := Lib.hid (first_date h1 h2)
  go_enter Tryz.func16, Tryz.ntmps16
  go_wp2_with (first | (go_at_call 12; refine (rlength_any _ _).mono ?_; rintro e w' ⟨rfl, rfl⟩) | (go_at_call 35; refine (rday_yes _ _ _ _ HD.out.1).mono ?_; rintro e w' ⟨rfl, hb⟩; rw [HD.out.2]))
  go_ret2
  exact ⟨rfl, by assumption⟩
theorem ext_dig (x : Nat) : (⟨#[48, 49, 50, 51, 52, 53, 54, 55, 56, 57]⟩ : ByteArray).extract (x % 10) (x % 10 + 1) = ⟨[dgt x].toArray⟩ := by
  have h : x % 10 < 10 := by omega
  unfold dgt
  generalize x % 10 = k at h
  have : ∀ k : Nat, k < 10 → (⟨#[48, 49, 50, 51, 52, 53, 54, 55, 56, 57]⟩ : ByteArray).extract k (k + 1) = ⟨[UInt8.ofNat (48 + k)].toArray⟩ := by decide
  exact this k h
set_option maxHeartbeats 400000 in
theorem rtwo_any (n : Nat) (w : World) (h : n < 100) : Calls Tryz.prog 39 #[.int .i64 n] w fun e w' => e = .returned (.string ⟨(dg2 n).toArray⟩) ∧ Below w.heap.size w w' := by
  go_enter Tryz.func39, Tryz.ntmps39
  go_wp2
  go_quiet (fail)
  go_wp2
  go_ret
  refine ⟨ret_str ?_, World.below_drewN (Below.refl _ _) _⟩
  rw [ext_dig, ext_dig, bcat]
  rfl
theorem rtwo_int (n : Int) (w : World) (h : 0 ≤ n) (h' : n < 100) : Calls Tryz.prog 39 #[.int .i64 n] w fun e w' => e = .returned (.string ⟨(dg2 n.toNat).toArray⟩) ∧ Below w.heap.size w w' := by
  obtain ⟨k, rfl⟩ := Int.eq_ofNat_of_zero_le h
  exact rtwo_any k w (by omega)
theorem dg4_two {y : Nat} (h : y ≤ 9999) : dg2 (y / 100) ++ dg2 (y % 100) = dg4 y := by
  simp only [dg2, dg4, List.cons_append, List.nil_append, Nat.div_div_eq_div_mul, List.cons.injEq, and_true, true_and]
  refine ⟨?_, ?_⟩ <;> unfold dgt <;> congr 2 <;> omega
theorem rtext_no (y m d : Int) (w : World) (hv : vldB y m d = false) : Calls Tryz.prog 19 #[.agg #[.int .i64 y, .int .i64 m, .int .i64 d]] w fun e w' => e = .returned (.string ⟨#[]⟩) ∧ Below w.heap.size w w' := by
  have HV := Lib.hid hv
  clear hv
  go_enter Tryz.func19, Tryz.ntmps19
  go_wp2_with (go_at_call 38; refine (rvalid_any _ _ _ _).mono ?_; rintro e w' ⟨rfl, hb⟩; rw [HV.out]; have HB := Lib.hid (below_box hb); clear hb)
  go_ret
  exact ⟨rfl, Hid.out (by assumption)⟩
set_option maxHeartbeats 2000000 in
set_option maxRecDepth 10000000 in
theorem rtext_yes (y m d : Int) (w : World) (hv : Vld y m d) : Calls Tryz.prog 19 #[.agg #[.int .i64 y, .int .i64 m, .int .i64 d]] w fun e w' => e = .returned (.string ⟨(txtL y m d).toArray⟩) ∧ Below w.heap.size w w' := by
  have HV := Lib.hid (vldB_t.2 hv)
  have h31 := hv.d31
  have HT : Hid (txtL y m d = dg2 (y.toNat / 100) ++ dg2 (y.toNat % 100) ++ [45] ++ dg2 m.toNat ++ [45] ++ dg2 d.toNat) := by
    obtain ⟨c1, c2, _⟩ := hv
    unfold Hid txtL
    rw [dg4_two (by omega)]
  obtain ⟨c1, c2, c3, c4, c5, c6⟩ := hv
  clear c6
  obtain ⟨a, rfl⟩ : ∃ a : Nat, y = a := ⟨y.toNat, by omega⟩
  obtain ⟨b, rfl⟩ : ∃ b : Nat, m = b := ⟨m.toNat, by omega⟩
  obtain ⟨c, rfl⟩ : ∃ c : Nat, d = c := ⟨d.toNat, by omega⟩
  simp only [Int.toNat_natCast] at HT
  go_enter Tryz.func19, Tryz.ntmps19
  go_wp2_with (go_at_call 38; refine (rvalid_any _ _ _ _).mono ?_; rintro e w' ⟨rfl, hb⟩; rw [HV.out]; have BB := Lib.hid (below_box hb); obtain ⟨a0, a1, a2⟩ := box3 hb; clear hb)
  have BB : Hid (Below w.heap.size w w') := by assumption
  have B0 := Below.refl w'.heap.size w'
  have l1 : (dg2 (a / 100)).length = 2 := rfl
  have q1 : IntKind.i64.wrap ((a : Int) / 100) = (a : Int) / 100 := IntWalk.i64_in _ (by omega)
  have Z1 : Hid (((a : Int) / 100).toNat = a / 100) := by unfold Hid; omega
  have Z2 : Hid (((a : Int).tmod 100).toNat = a % 100) := by unfold Hid; rw [Int.tmod_eq_emod_of_nonneg (by omega)]; omega
  have Z3 : Hid (0 ≤ (a : Int).tmod 100 ∧ (a : Int).tmod 100 < 100) := by unfold Hid; rw [Int.tmod_eq_emod_of_nonneg (by omega)]; omega
  have l2 : (dg2 (a % 100)).length = 2 := rfl
  have l3 : (dg2 b).length = 2 := rfl
  have l4 : (dg2 c).length = 2 := rfl
  go_region_held3 (fun W => W.cell? ⟨w.heap.size, 0, none⟩ = some (.int .i64 a) ∧ W.cell? ⟨w.heap.size, 1, none⟩ = some (.int .i64 b) ∧ W.cell? ⟨w.heap.size, 2, none⟩ = some (.int .i64 c) ∧ Below w'.heap.size w' W)
    (first | exact ⟨a0, a1, a2, World.below_drewN B0 _⟩ | (go_split_ands; exact ⟨stays (by assumption) (by assumption), stays (by assumption) (by assumption), stays (by assumption) (by assumption), onward (by assumption) (by assumption)⟩))
    (first | (go_at_call 39; ((with_reducible refine (rtwo_int ((a : Int) / 100) _ (by omega) (by omega)).mono ?_); rintro e w1 ⟨rfl, hb⟩; rw [Z1.out])) | (go_at_call 39; ((with_reducible refine (rtwo_int ((a : Int).tmod 100) _ Z3.out.1 Z3.out.2).mono ?_); rintro e w1 ⟨rfl, hb⟩; rw [Z2.out])) | (go_at_call 39; ((with_reducible refine (rtwo_any b _ (by omega)).mono ?_); rintro e w1 ⟨rfl, hb⟩)) | (go_at_call 39; ((with_reducible refine (rtwo_any c _ (by omega)).mono ?_); rintro e w1 ⟨rfl, hb⟩)))
  go_split_ands
  have HZ : Hid (Below w.heap.size w w1) := BB.out.trans (Below.mono (by assumption) BB.out.size)
  clear a0 a1 a2 B0 q1
  go_wp2
  go_ret
  exact ⟨ret_str (by rw [bcat, bcat, bcat, bcat, bcat, HT.out]), HZ.out⟩
theorem rdtext_any (y m d : Int) (w : World) : Calls Tryz.prog 19 #[.agg #[.int .i64 y, .int .i64 m, .int .i64 d]] w fun e w' => e = .returned (.string (txtB y m d)) ∧ Below w.heap.size w w' := by
  cases hv : vldB y m d
  · exact (rtext_no y m d w hv).mono fun _ _ ⟨h, hb⟩ => ⟨h.trans (by simp [txtB, hv]), hb⟩
  · exact (rtext_yes y m d w (vldB_t.1 hv)).mono fun _ _ ⟨h, hb⟩ => ⟨h.trans (by simp [txtB, hv]), hb⟩
end Go.Proofs.YtmppkhjjlgngkaaGreatDoor
