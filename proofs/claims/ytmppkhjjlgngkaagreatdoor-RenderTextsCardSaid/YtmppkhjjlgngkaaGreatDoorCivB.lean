/- The walks of civil's Day, Month, First, Clamp and Of. -/
import Derived.Test.YtmppkhjjlgngkaaGreatDoorCivA
namespace Go.Proofs.YtmppkhjjlgngkaaGreatDoor
open Go.RowKit Civ
set_option maxHeartbeats 400000 in
theorem month_any (y m d : Int) (w : World) (hL : Lens w) : Calls Tryz.prog 52 #[.agg #[.int .i64 y, .int .i64 m, .int .i64 d]] w fun e w' => e = .returned (.int .i64 (if vldB y m d = true then 12 * y + m - 1 else 0)) ∧ Below w.heap.size w w' := by
  have HL := Lib.hid (hL.alloc (.cells #[.int .i64 y, .int .i64 m, .int .i64 d] 33)) 
  clear hL
  cases hv : vldB y m d
  · have HV := Lib.hid hv
    clear hv
    go_enter Tryz.func52, Tryz.ntmps52
    go_wp2_with (go_at_call 25; refine (valid_any _ _ _ _ HL.out).mono ?_; rintro e w' ⟨rfl, hb⟩; rw [HV.out]; have HB := Lib.hid hb; clear hb)
    have HB : Hid (Below w.heap.size w w') := below_box (Hid.out (by assumption))
    go_ret
    exact ⟨rfl, HB.out⟩
  · have HV := Lib.hid hv
    obtain ⟨c1, c2, c3, c4, c5, c6⟩ := vldB_t.1 hv
    clear hv
    go_enter Tryz.func52, Tryz.ntmps52
    go_wp2_with (first | (go_at_call 25; refine (valid_any _ _ _ _ HL.out).mono ?_; rintro e w' ⟨rfl, hb⟩; rw [HV.out]; obtain ⟨hc, hfz⟩ := bcell hb) | (go_at_call 46; refine (number_any _ _ _ (by omega) (by omega) (by omega) (by omega)).mono ?_; rintro e w' ⟨rfl, rfl⟩))
    go_ret
    exact ⟨rfl, below_box (by assumption)⟩
set_option maxHeartbeats 400000 in
theorem clamp_no (m n : Int) (w : World) (hL : Lens w) (h : m < 12 ∨ 120000 ≤ m ∨ n < 1) : Calls Tryz.prog 9 #[.int .i64 m, .int .i64 n] w fun e w' => e = .returned (.tuple #[.agg #[.int .i64 0, .int .i64 0, .int .i64 0], .int .i64 1]) ∧ Below w.heap.size w w' := by
  have HL := Lib.hid (hL.alloc (.cells #[.int .i64 0, .int .i64 0, .int .i64 0] 33)) 
  have HB := Lib.hid ((Below.refl w.heap.size w).alloc (Nat.le_refl _) (.cells #[.int .i64 0, .int .i64 0, .int .i64 0] 33))
  clear hL
  by_cases h' : m < 12 ∨ 120000 ≤ m
  · have H0 := Lib.hid (lenM_no h')
    clear h h'
    go_enter Tryz.func9, Tryz.ntmps9
    go_wp2_with (go_at_call 21; refine (length_any _ _ HL.out).mono ?_; rintro e w' ⟨rfl, rfl⟩; rw [H0.out])
    refine bodyPost_ret (v := .tuple #[.agg #[.int .i64 0, .int .i64 0, .int .i64 0], .int .i64 1]) (by simp [results, Tryz.results9, go_sem]) rfl ⟨rfl, ?_⟩
    exact ((Below.refl _ _).alloc (Nat.le_refl _) _)
  · have h0 := lenM_bd m (by omega) (by omega)
    have h1 : n < 1 := by omega
    clear h h'
    go_enter Tryz.func9, Tryz.ntmps9
    go_wp2_with (go_at_call 21; refine (length_any _ _ HL.out).mono ?_; rintro e w' ⟨rfl, rfl⟩)
    refine bodyPost_ret (v := .tuple #[.agg #[.int .i64 0, .int .i64 0, .int .i64 0], .int .i64 1]) (by simp [results, Tryz.results9, go_sem]) rfl ⟨rfl, ?_⟩
    exact ((Below.refl _ _).alloc (Nat.le_refl _) _)
set_option maxHeartbeats 400000 in
theorem clamp_yes (m n : Int) (w : World) (hL : Lens w) (h1 : 12 ≤ m) (h2 : m < 120000) (h3 : 1 ≤ n) : Calls Tryz.prog 9 #[.int .i64 m, .int .i64 n] w fun e w' => e = .returned (.tuple #[.agg #[.int .i64 (m / 12), .int .i64 (m % 12 + 1), .int .i64 (min n (lenM m))], .int .i64 0]) ∧ Below w.heap.size w w' := by
  have HL := Lib.hid (hL.alloc (.cells #[.int .i64 0, .int .i64 0, .int .i64 0] 33)) 
  clear hL
  have h0 := lenM_bd m (by omega) (by omega)
  have hz : (lenM m == 0) = false := by simp; omega
  rcases Int.le_total n (lenM m) with h4 | h4
  all_goals
    have HM := Lib.hid (show min n (lenM m) = _ from by first | exact Int.min_eq_left h4 | exact Int.min_eq_right h4)
    go_enter Tryz.func9, Tryz.ntmps9
    go_wp2_with (go_at_call 21; refine (length_any _ _ HL.out).mono ?_; rintro e w' ⟨rfl, rfl⟩)
    all_goals (refine bodyPost_ret (v := .tuple #[.agg #[.int .i64 (m / 12), .int .i64 (m % 12 + 1), .int .i64 (min n (lenM m))], .int .i64 0]) (by rw [HM.out]; simp [results, Tryz.results9, go_sem]; try omega) rfl ⟨rfl, ?_⟩)
    all_goals exact ((Below.refl _ _).alloc (Nat.le_refl _) _)
theorem guess (n : Int) (h1 : -719162 ≤ n) (h2 : n ≤ 2932896) : 1 ≤ (n + 719162) / 366 + 1 ∧ (n + 719162) / 366 + 1 ≤ 9999 ∧ yearsF ((n + 719162) / 366 + 1) ≤ n + 719162 := by
  unfold yearsF
  omega
end Go.Proofs.YtmppkhjjlgngkaaGreatDoor
