/- The walks of the reference's digits, Decimal, Name and number. -/
import Derived.Test.YtecbnhmnhcpcmaaGreatDoorAcB
import Derived.BigGuardPart
namespace Go.Proofs.YtecbnhmnhcpcmaaGreatDoor
open Go.RowKit Go.Shelf Acct
set_option linter.unusedVariables false
set_option linter.unusedSimpArgs false
theorem dg_piece (d : Nat) (h : d < 10) : (⟨#[48, 49, 50, 51, 52, 53, 54, 55, 56, 57]⟩ : ByteArray).extract d (d + 1) = ⟨#[UInt8.ofNat (48 + d)]⟩ := by
  have : d = 0 ∨ d = 1 ∨ d = 2 ∨ d = 3 ∨ d = 4 ∨ d = 5 ∨ d = 6 ∨ d = 7 ∨ d = 8 ∨ d = 9 := by omega
  rcases this with rfl | rfl | rfl | rfl | rfl | rfl | rfl | rfl | rfl | rfl <;> rfl
set_option maxHeartbeats 1000000 in
theorem digits_any (m : Nat) : ∀ (u : Nat) (w : World), u < m → u < 18446744073709551616 → Calls Tryz.prog 83 #[.int .u64 u] w fun e w' => e = .returned (.string ⟨(Lib.decDigits u).toArray⟩) ∧ w = w' := by
  induction m with
  | zero => intro u w h; omega
  | succ m ih =>
    intro u w hm hu
    have HP := Lib.hid (dg_piece (u % 10) (by omega))
    by_cases h10 : u < 10
    · have HD : Hid (Lib.decDigits u = [UInt8.ofNat (48 + u % 10)]) := by
        rw [show u % 10 = u from by omega]; exact Lib.decDigits_one h10
      go_enter Tryz.func83, Tryz.ntmps83
      go_wp2_with fail
      go_ret
      exact ⟨ret_str (by rw [HD.out]; exact HP.out), rfl⟩
    · have HD : Hid (Lib.decDigits u = Lib.decDigits (u / 10) ++ [UInt8.ofNat (48 + u % 10)]) := by
        show _ = _
        rw [Lib.decDigits, dif_neg h10]
      have IH := Lib.hid (ih (u / 10) w (by omega) (by omega))
      go_enter Tryz.func83, Tryz.ntmps83
      go_wp2_with fail
      refine IH.out.mono ?_
      rintro e w1 ⟨rfl, rfl⟩
      have hl : (Lib.decDigits (u / 10)).length ≤ 20 := by rw [Lib.decDigits_length]; exact Lib.nDigits_le20 _ (by omega)
      generalize Lib.decDigits (u / 10) = ds at *
      go_wp2_with fail
      go_ret
      exact ⟨ret_str (by rw [HD.out, ← bcat]; exact congrArg (⟨ds.toArray⟩ ++ ·) HP.out), rfl⟩
set_option maxHeartbeats 1000000 in
theorem decimal_any (n : Int) (w : World) (h : inInt n) : Calls Tryz.prog 61 #[.int .i64 n] w fun e w' => e = .returned (.string ⟨(Lib.itoa n).toArray⟩) ∧ w = w' := by
  obtain ⟨h1, h2⟩ := h
  by_cases hn : n < 0
  · have HI : Hid (Lib.itoa n = 45 :: Lib.decDigits n.natAbs) := by show _ = _; unfold Lib.itoa; rw [if_pos hn]
    have HW : Hid (IntKind.u64.wrap (-IntKind.u64.wrap n) = ((n.natAbs : Nat) : Int)) := by
      show _ = _
      have e1 : IntKind.u64.wrap n = n % 18446744073709551616 := rfl
      have e2 : ∀ x, IntKind.u64.wrap x = x % 18446744073709551616 := fun _ => rfl
      rw [e2, e2]; omega
    go_enter Tryz.func61, Tryz.ntmps61
    go_wp2_with fail
    rw [HW.out]
    refine (digits_any (n.natAbs + 1) n.natAbs _ (by omega) (by omega)).mono ?_
    rintro e w1 ⟨rfl, rfl⟩
    have hl : (Lib.decDigits n.natAbs).length ≤ 20 := by rw [Lib.decDigits_length]; exact Lib.nDigits_le20 _ (by omega)
    generalize Lib.decDigits n.natAbs = ds at *
    go_wp2_with fail
    go_ret
    exact ⟨ret_str (by rw [HI.out]; exact bcat [45] ds), rfl⟩
  · obtain ⟨u, rfl⟩ : ∃ u : Nat, n = u := ⟨n.toNat, by omega⟩
    have HI : Hid (Lib.itoa (u : Int) = Lib.decDigits u) := Lib.itoa_nonneg u
    have HW : Hid (IntKind.u64.wrap (u : Int) = (u : Int)) := by
      show _ = _
      have e2 : ∀ x, IntKind.u64.wrap x = x % 18446744073709551616 := fun _ => rfl
      rw [e2]; omega
    go_enter Tryz.func61, Tryz.ntmps61
    go_wp2_with fail
    try rw [HW.out]
    refine (digits_any (u + 1) u _ (by omega) (by omega)).mono ?_
    rintro e w1 ⟨rfl, rfl⟩
    go_wp2_with fail
    go_ret
    exact ⟨ret_str (by rw [HI.out]), rfl⟩
end Go.Proofs.YtecbnhmnhcpcmaaGreatDoor
