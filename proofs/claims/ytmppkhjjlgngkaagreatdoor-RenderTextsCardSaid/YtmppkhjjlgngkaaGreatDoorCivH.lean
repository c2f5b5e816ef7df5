/- The walks of the calendar's laws CivilMonths and CivilTexts. -/
import Derived.Test.YtmppkhjjlgngkaaGreatDoorCivG
namespace Go.Proofs.YtmppkhjjlgngkaaGreatDoor
open Go.RowKit Civ
set_option linter.unusedVariables false
set_option linter.unusedSimpArgs false
theorem leapI_400 (y : Int) : leapI (y + 400) = leapI y := by
  unfold leapI
  by_cases c : y % 4 = 0 ∧ (y % 100 ≠ 0 ∨ y % 400 = 0)
  · rw [if_pos c, if_pos (by omega)]
  · rw [if_neg c, if_neg (by omega)]
theorem firstM_400 (m : Int) (h : 12 ≤ m) (h' : m + 4800 < 120000) : firstM (m + 4800) = firstM m + 146097 := by
  obtain ⟨y, k, hk, rfl⟩ : ∃ (y : Int) (k : Nat), k < 12 ∧ m = 12 * y + k := ⟨m / 12, (m % 12).toNat, by omega, by omega⟩
  have hc : ∀ j : Nat, j ≤ 12 → cum (y + 400) j = cum y j := by
    intro j
    induction j with
    | zero => intro _; rfl
    | succ j ih =>
      intro hj
      simp only [cum]
      rw [ih (by omega), lenM_at (y + 400) j (by omega) (by omega) (by omega), lenM_at y j (by omega) (by omega) (by omega), leapI_400]
  rw [show 12 * y + (k : Int) + 4800 = 12 * (y + 400) + k from by omega, firstM_at _ k hk, firstM_at _ k hk, hc k (by omega)]
  unfold yearsF
  omega
theorem text_b {y m d : Int} {s : ByteArray} (w : World) (hE : Env w) (hs : txtB y m d = s) : Calls Tryz.prog 11 #[.agg #[.int .i64 y, .int .i64 m, .int .i64 d]] w fun e w' => e = .returned (.string s) ∧ Below w.heap.size w w' :=
  (text_any y m d w hE).mono fun e w' ⟨he, hb⟩ => ⟨by rw [he, hs], hb⟩
theorem valid_yes {y m d : Int} (w : World) (hE : Env w) (hv : vldB y m d = true) : Calls Tryz.prog 25 #[.agg #[.int .i64 y, .int .i64 m, .int .i64 d]] w fun e w' => e = .returned (.bool true) ∧ Below w.heap.size w w' :=
  (valid_any y m d w hE.lens).mono fun e w' ⟨he, hb⟩ => ⟨by rw [he, hv], hb⟩
theorem valid_no {y m d : Int} (w : World) (hE : Env w) (hv : vldB y m d = false) : Calls Tryz.prog 25 #[.agg #[.int .i64 y, .int .i64 m, .int .i64 d]] w fun e w' => e = .returned (.bool false) ∧ Below w.heap.size w w' :=
  (valid_any y m d w hE.lens).mono fun e w' ⟨he, hb⟩ => ⟨by rw [he, hv], hb⟩
end Go.Proofs.YtmppkhjjlgngkaaGreatDoor
