/- The walks of acct.Units and of the law's numbers. The walks of the reference's digits, Decimal, Name and number. -/
import Derived.Test.YtecbnhmnhcpcmaaGreatDoorPkJournalPlays14
import Derived.BigGuardPart
/-! The walks of acct.Units and of the law's numbers. -/
namespace Go.Proofs.YtecbnhmnhcpcmaaGreatDoor
open Go.RowKit Go.Shelf Acct
set_option linter.unusedVariables false
set_option linter.unusedSimpArgs false
/-- the words of accounts of units -/
def unitWs : List (List UInt8) := [[117, 115, 101], [102, 114, 101, 101], [111, 118, 101, 114], [112, 97, 99, 107], [115, 111, 108, 100], [100, 97, 121], [100, 97, 121, 115]]
noncomputable def unitsB (l : List UInt8) : Bool := @decide (∃ wd ns, Named l wd ns ∧ wd ∈ unitWs) (Classical.propDecidable _)
theorem unitsB_t {l : List UInt8} : unitsB l = true ↔ ∃ wd ns, Named l wd ns ∧ wd ∈ unitWs := by
  unfold unitsB
  exact @decide_eq_true_iff _ (Classical.propDecidable _)
theorem units_of {l wd : List UInt8} {ns : List Int} (h : Named l wd ns) : unitsB l = decide (wd ∈ unitWs) := by
  rw [Bool.eq_iff_iff, unitsB_t, decide_eq_true_iff]
  constructor
  · rintro ⟨w', ns', h1, h2⟩
    rw [(h.only h1).1]; exact h2
  · exact fun h2 => ⟨wd, ns, h, h2⟩
theorem units_no {l : List UInt8} (h : ∀ wd ns, ¬ Named l wd ns) : unitsB l = false := by
  rw [← Bool.not_eq_true, unitsB_t]
  rintro ⟨w', ns', h1, h2⟩
  exact h _ _ h1
def unitZ : List ByteArray := [⟨#[117, 115, 101]⟩, ⟨#[102, 114, 101, 101]⟩, ⟨#[111, 118, 101, 114]⟩, ⟨#[112, 97, 99, 107]⟩, ⟨#[115, 111, 108, 100]⟩, ⟨#[100, 97, 121]⟩, ⟨#[100, 97, 121, 115]⟩]
theorem unitZ_is (wd : List UInt8) : Lib.containsS unitZ ⟨wd.toArray⟩ = decide (wd ∈ unitWs) := by
  rw [Bool.eq_iff_iff, decide_eq_true_iff, Lib.containsS_iff]
  have e : unitZ = unitWs.map fun l => (⟨l.toArray⟩ : ByteArray) := rfl
  rw [e, List.mem_map]
  constructor
  · rintro ⟨l, h1, h2⟩
    injection h2 with h2
    have : l = wd := by simpa using h2
    rw [← this]; exact h1
  · exact fun h => ⟨wd, h, rfl⟩
set_option maxHeartbeats 1000000 in
set_option maxRecDepth 1000000 in
theorem units_any (name : ByteArray) (w : World) (hE : EnvA w) (hs : name.size ≤ 100000) : Calls Tryz.prog 25 #[.string name] w fun e w' => e = .returned (.bool (unitsB name.data.toList)) ∧ Below w.heap.size w w' := by
  have HE := Lib.hid hE
  clear hE
  go_enter Tryz.func25, Tryz.ntmps25
  go_wp2_with fail
  refine (aparse_any name w HE.out hs).mono ?_
  rintro e w1 ⟨hb, ⟨wd, ns, nv, hN, hI, rfl⟩ | ⟨hN, rfl⟩⟩
  · have HU := Lib.hid (units_of hN)
    have B1 := Lib.hid hb
    clear hb hN hI
    go_wp2_with fail
    have hc : ∀ j, j < unitZ.length → (w1.alloc (.cells #[.string ⟨#[117, 115, 101]⟩, .string ⟨#[102, 114, 101, 101]⟩, .string ⟨#[111, 118, 101, 114]⟩, .string ⟨#[112, 97, 99, 107]⟩, .string ⟨#[115, 111, 108, 100]⟩, .string ⟨#[100, 97, 121]⟩, .string ⟨#[100, 97, 121, 115]⟩] 9)).cell? ⟨w1.heap.size, 0 + j, none⟩ = some (.string (unitZ.getD j ByteArray.empty)) := by
      intro j hj
      rw [Nat.zero_add, World.cell?_alloc_new]
      have h7 : j < 7 := hj
      have : j = 0 ∨ j = 1 ∨ j = 2 ∨ j = 3 ∨ j = 4 ∨ j = 5 ∨ j = 6 := by omega
      rcases this with rfl | rfl | rfl | rfl | rfl | rfl | rfl <;> rfl
    refine (Tryz.slices_Contains_string w1.heap.size 0 7 7 unitZ ⟨wd.toArray⟩ _ (by decide) (by decide) hc).mono ?_
    rintro e w2 ⟨rfl, rfl⟩
    rw [show unitZ.take 7 = unitZ from rfl, unitZ_is, ← HU.out]
    have B2 := Lib.hid (onward (below_alloc w1 (.cells #[.string ⟨#[117, 115, 101]⟩, .string ⟨#[102, 114, 101, 101]⟩, .string ⟨#[111, 118, 101, 114]⟩, .string ⟨#[112, 97, 99, 107]⟩, .string ⟨#[115, 111, 108, 100]⟩, .string ⟨#[100, 97, 121]⟩, .string ⟨#[100, 97, 121, 115]⟩] 9)) B1.out)
    clear hc HU
    go_wp2
    go_ret
    exact ⟨rfl, B2.out⟩
  · have HU := Lib.hid (units_no hN)
    have B1 := Lib.hid hb
    clear hb hN
    go_wp2_with fail
    go_ret
    exact ⟨ret_bool HU.out.symm, B1.out⟩
end Go.Proofs.YtecbnhmnhcpcmaaGreatDoor
/-! The walks of the reference's digits, Decimal, Name and number. -/
namespace Go.Proofs.YtecbnhmnhcpcmaaGreatDoor
open Go.RowKit Go.Shelf Acct
set_option linter.unusedVariables false
set_option linter.unusedSimpArgs false
theorem dg_piece (d : Nat) (h : d < 10) : (⟨#[48, 49, 50, 51, 52, 53, 54, 55, 56, 57]⟩ : ByteArray).extract d (d + 1) = ⟨#[UInt8.ofNat (48 + d)]⟩ := by
  have : d = 0 ∨ d = 1 ∨ d = 2 ∨ d = 3 ∨ d = 4 ∨ d = 5 ∨ d = 6 ∨ d = 7 ∨ d = 8 ∨ d = 9 := by omega
  rcases this with rfl | rfl | rfl | rfl | rfl | rfl | rfl | rfl | rfl | rfl <;> rfl
set_option maxHeartbeats 1000000 in
theorem digits_any (m : Nat) : ∀ (u : Nat) (w : World), u < m → u < 18446744073709551616 → Calls Tryz.prog 83 #[.int .u64 u] w fun e w' => e = .returned (.string ⟨(Lib.decDigits u).toArray⟩) ∧ w = w' := by
  induction m with
  | zero => intro u w h; omega
  | succ m ih =>
    intro u w hm hu
    have HP := Lib.hid (dg_piece (u % 10) (by omega))
    by_cases h10 : u < 10
    · have HD : Hid (Lib.decDigits u = [UInt8.ofNat (48 + u % 10)]) := by
        rw [show u % 10 = u from by omega]; exact Lib.decDigits_one h10
      go_enter Tryz.func83, Tryz.ntmps83
      go_wp2_with fail
      go_ret
      exact ⟨ret_str (by rw [HD.out]; exact HP.out), rfl⟩
    · have HD : Hid (Lib.decDigits u = Lib.decDigits (u / 10) ++ [UInt8.ofNat (48 + u % 10)]) := by
        show _ = _
        rw [Lib.decDigits, dif_neg h10]
      have IH := Lib.hid (ih (u / 10) w (by omega) (by omega))
      go_enter Tryz.func83, Tryz.ntmps83
      go_wp2_with fail
      refine IH.out.mono ?_
      rintro e w1 ⟨rfl, rfl⟩
      have hl : (Lib.decDigits (u / 10)).length ≤ 20 := by rw [Lib.decDigits_length]; exact Lib.nDigits_le20 _ (by omega)
      generalize Lib.decDigits (u / 10) = ds at *
      go_wp2_with fail
      go_ret
      exact ⟨ret_str (by rw [HD.out, ← bcat]; exact congrArg (⟨ds.toArray⟩ ++ ·) HP.out), rfl⟩
set_option maxHeartbeats 1000000 in
theorem decimal_any (n : Int) (w : World) (h : inInt n) : Calls Tryz.prog 61 #[.int .i64 n] w fun e w' => e = .returned (.string ⟨(Lib.itoa n).toArray⟩) ∧ w = w' := by
  obtain ⟨h1, h2⟩ := h
  by_cases hn : n < 0
  · have HI : Hid (Lib.itoa n = 45 :: Lib.decDigits n.natAbs) := by show _ = _; unfold Lib.itoa; rw [if_pos hn]
    have HW : Hid (IntKind.u64.wrap (-IntKind.u64.wrap n) = ((n.natAbs : Nat) : Int)) := by
      show _ = _
      have e1 : IntKind.u64.wrap n = n % 18446744073709551616 := rfl
      have e2 : ∀ x, IntKind.u64.wrap x = x % 18446744073709551616 := fun _ => rfl
      rw [e2, e2]; omega
    go_enter Tryz.func61, Tryz.ntmps61
    go_wp2_with fail
    rw [HW.out]
    refine (digits_any (n.natAbs + 1) n.natAbs _ (by omega) (by omega)).mono ?_
    rintro e w1 ⟨rfl, rfl⟩
    have hl : (Lib.decDigits n.natAbs).length ≤ 20 := by rw [Lib.decDigits_length]; exact Lib.nDigits_le20 _ (by omega)
    generalize Lib.decDigits n.natAbs = ds at *
    go_wp2_with fail
    go_ret
    exact ⟨ret_str (by rw [HI.out]; exact bcat [45] ds), rfl⟩
  · obtain ⟨u, rfl⟩ : ∃ u : Nat, n = u := ⟨n.toNat, by omega⟩
    have HI : Hid (Lib.itoa (u : Int) = Lib.decDigits u) := Lib.itoa_nonneg u
    have HW : Hid (IntKind.u64.wrap (u : Int) = (u : Int)) := by
      show _ = _
      have e2 : ∀ x, IntKind.u64.wrap x = x % 18446744073709551616 := fun _ => rfl
      rw [e2]; omega
    go_enter Tryz.func61, Tryz.ntmps61
    go_wp2_with fail
    try rw [HW.out]
    refine (digits_any (u + 1) u _ (by omega) (by omega)).mono ?_
    rintro e w1 ⟨rfl, rfl⟩
    go_wp2_with fail
    go_ret
    exact ⟨ret_str (by rw [HI.out]), rfl⟩
end Go.Proofs.YtecbnhmnhcpcmaaGreatDoor
