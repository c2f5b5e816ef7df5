/- The walks of the calendar's numeric functions (civil): what each call answers, as plain arithmetic says. -/
import Derived.Test.YtmppkhjjlgngkaaGreatDoorProg
import Derived.Test.YtmppkhjjlgngkaaGreatDoorCivM
import Derived.Test.YtmppkhjjlgngkaaGreatDoorBas
import Derived.WalkKit
import Derived.Deep.QuietTactic
import Derived.BigQuiet
import Derived.Handy
import Derived.IntWalk
import Derived.Lib.Hide
namespace Go.Proofs.YtmppkhjjlgngkaaGreatDoor
open Go.RowKit Civ
/-- the table lies in memory -/
def Lens (w : World) : Prop := ∀ i : Nat, i < 12 → w.cell? ⟨0, i, none⟩ = some (.int .i64 (lenL.getD i 0))
theorem Lens.below {w w' : World} (h : Lens w) (hb : Below w.heap.size w w') : Lens w' := fun i hi => (hb.cell (World.block_lt_of_cell? w _ (h i hi))).trans (h i hi)
theorem Lens.alloc {w : World} (h : Lens w) (o : Obj) : Lens (w.alloc o) := h.below ((Below.refl _ _).alloc (Nat.le_refl _) o)
theorem Lens.drewN {w : World} (h : Lens w) (n : Nat) : Lens (w.drewN n) := h
theorem Lens.drew {w : World} (h : Lens w) : Lens w.drew := h.below (Below.refl _ _).drew
set_option maxHeartbeats 400000 in
theorem leap_any (y : Int) (w : World) : Calls Tryz.prog 40 #[.int .i64 y] w fun e w' => e = .returned (.bool (leapB y)) ∧ w = w' := by
  go_enter Tryz.func40, Tryz.ntmps40
  go_wp2
  all_goals (go_ret; exact ⟨by simp [leapB, *], rfl⟩)
set_option maxHeartbeats 400000 in
theorem length_any (m : Int) (w : World) (hL : Lens w) : Calls Tryz.prog 21 #[.int .i64 m] w fun e w' => e = .returned (.int .i64 (lenM m)) ∧ w = w' := by
  have hc : w.cell? ⟨0, (m % 12).toNat, none⟩ = some (.int .i64 (tabM m)) := hL _ (by omega)
  have hb := tabM_bd m
  clear hL
  obtain ⟨tm, HT⟩ : ∃ tm, Hid (tabM m = tm) := ⟨_, rfl⟩
  rw [HT.out] at hc hb
  by_cases h1 : m % 12 = 1
  · replace hc : w.cell? ⟨0, 1, none⟩ = some (.int .i64 tm) := by rw [h1] at hc; exact hc
    cases hl : leapB (m / 12)
    all_goals
      have HL := Lib.hid hl
      clear hl
      go_enter Tryz.func21, Tryz.ntmps21
      go_wp2_with (go_at_call 40; refine (leap_any _ _).mono ?_; rintro e w' ⟨rfl, rfl⟩; rw [HL.out])
      all_goals (go_ret; refine ⟨ret_int ?_, rfl⟩; rw [lenM, HT.out, HL.out]; simp; omega)
  · go_enter Tryz.func21, Tryz.ntmps21
    go_wp2_with (go_at_call 40; refine (leap_any _ _).mono ?_; rintro e w' ⟨rfl, rfl⟩)
    all_goals (go_ret; refine ⟨ret_int ?_, rfl⟩; rw [lenM, HT.out]; simp [h1]; try omega)
theorem number_any (y m : Int) (w : World) (h1 : 1 ≤ y) (h2 : y ≤ 9999) (h3 : 1 ≤ m) (h4 : m ≤ 12) : Calls Tryz.prog 46 #[.int .i64 y, .int .i64 m] w fun e w' => e = .returned (.int .i64 (12 * y + m - 1)) ∧ w = w' := by
  go_enter Tryz.func46, Tryz.ntmps46
  go_wp2
  go_ret
  exact ⟨rfl, rfl⟩
set_option maxHeartbeats 400000 in
theorem valid_any (y m d : Int) (w : World) (hL : Lens w) : Calls Tryz.prog 25 #[.agg #[.int .i64 y, .int .i64 m, .int .i64 d]] w fun e w' => e = .returned (.bool (vldB y m d)) ∧ Below w.heap.size w w' := by
  have HL := Lib.hid (hL.alloc (.cells #[.int .i64 y, .int .i64 m, .int .i64 d] 33)) 
  clear hL
  have HB := Lib.hid ((Below.refl w.heap.size w).alloc (Nat.le_refl _) (.cells #[.int .i64 y, .int .i64 m, .int .i64 d] 33))
  have HV : Hid (vldB y m d = decide (1 ≤ y ∧ y ≤ 9999 ∧ 1 ≤ m ∧ m ≤ 12 ∧ 1 ≤ d ∧ d ≤ lenM (12 * y + m - 1))) := rfl
  have hc : (¬ 1 ≤ y ∧ decide (1 ≤ y) = false) ∨ (1 ≤ y ∧ ¬ y ≤ 9999 ∧ decide (y ≤ 9999) = false) ∨ (1 ≤ y ∧ y ≤ 9999 ∧ ¬ 1 ≤ m ∧ decide (1 ≤ m) = false) ∨ (1 ≤ y ∧ y ≤ 9999 ∧ 1 ≤ m ∧ ¬ m ≤ 12 ∧ decide (m ≤ 12) = false) ∨ (1 ≤ y ∧ y ≤ 9999 ∧ 1 ≤ m ∧ m ≤ 12 ∧ ¬ 1 ≤ d ∧ decide (1 ≤ d) = false) ∨ (1 ≤ y ∧ y ≤ 9999 ∧ 1 ≤ m ∧ m ≤ 12 ∧ 1 ≤ d) := by
    simp only [decide_eq_false_iff_not]; omega
  rcases hc with ⟨c1, d1⟩ | ⟨c1, c2, d1⟩ | ⟨c1, c2, c3, d1⟩ | ⟨c1, c2, c3, c4, d1⟩ | ⟨c1, c2, c3, c4, c5, d1⟩ | ⟨c1, c2, c3, c4, c5⟩
  all_goals
    go_enter Tryz.func25, Tryz.ntmps25
    go_wp2
    go_quiet ((first | (go_at_call 46; exact Calls.quiet_of_same ((number_any _ _ _ (by omega) (by omega) (by omega) (by omega)).mono fun e w' ⟨h1, h2⟩ => ⟨h1, h2.symm⟩)) | (go_at_call 21; exact Calls.quiet_of_same ((length_any _ _ (HL.out.drewN _)).mono fun e w' ⟨h1, h2⟩ => ⟨h1, h2.symm⟩))))
    go_wp2
    go_ret
    refine ⟨ret_bool ?_, World.below_drewN HB.out _⟩
    rw [HV.out]
    simp [*]
    try omega
end Go.Proofs.YtmppkhjjlgngkaaGreatDoor
