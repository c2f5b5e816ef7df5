/- The walks of acct.Units and of the law's numbers. -/
import Derived.Test.YtecbnhmnhcpcmaaGreatDoorAcB
namespace Go.Proofs.YtecbnhmnhcpcmaaGreatDoor
open Go.RowKit Go.Shelf Acct
set_option linter.unusedVariables false
set_option linter.unusedSimpArgs false
/-- the words of accounts of units -/
def unitWs : List (List UInt8) := [[117, 115, 101], [102, 114, 101, 101], [111, 118, 101, 114], [112, 97, 99, 107], [115, 111, 108, 100], [100, 97, 121], [100, 97, 121, 115]]
noncomputable def unitsB (l : List UInt8) : Bool := @decide (∃ wd ns, Named l wd ns ∧ wd ∈ unitWs) (Classical.propDecidable _)
theorem unitsB_t {l : List UInt8} : unitsB l = true ↔ ∃ wd ns, Named l wd ns ∧ wd ∈ unitWs := by
  unfold unitsB
  exact @decide_eq_true_iff _ (Classical.propDecidable _)
theorem units_of {l wd : List UInt8} {ns : List Int} (h : Named l wd ns) : unitsB l = decide (wd ∈ unitWs) := by
  rw [Bool.eq_iff_iff, unitsB_t, decide_eq_true_iff]
  constructor
  · rintro ⟨w', ns', h1, h2⟩
    rw [(h.only h1).1]; exact h2
  · exact fun h2 => ⟨wd, ns, h, h2⟩
theorem units_no {l : List UInt8} (h : ∀ wd ns, ¬ Named l wd ns) : unitsB l = false := by
  rw [← Bool.not_eq_true, unitsB_t]
  rintro ⟨w', ns', h1, h2⟩
  exact h _ _ h1
def unitZ : List ByteArray := [⟨#[117, 115, 101]⟩, ⟨#[102, 114, 101, 101]⟩, ⟨#[111, 118, 101, 114]⟩, ⟨#[112, 97, 99, 107]⟩, ⟨#[115, 111, 108, 100]⟩, ⟨#[100, 97, 121]⟩, ⟨#[100, 97, 121, 115]⟩]
theorem unitZ_is (wd : List UInt8) : Lib.containsS unitZ ⟨wd.toArray⟩ = decide (wd ∈ unitWs) := by
  rw [Bool.eq_iff_iff, decide_eq_true_iff, Lib.containsS_iff]
  have e : unitZ = unitWs.map fun l => (⟨l.toArray⟩ : ByteArray) := rfl
  rw [e, List.mem_map]
  constructor
  · rintro ⟨l, h1, h2⟩
    injection h2 with h2
    have : l = wd := by simpa using h2
    rw [← this]; exact h1
  · exact fun h => ⟨wd, h, rfl⟩
set_option maxHeartbeats 1000000 in
set_option maxRecDepth 1000000 in
theorem units_any (name : ByteArray) (w : World) (hE : EnvA w) (hs : name.size ≤ 100000) : Calls Tryz.prog 25 #[.string name] w fun e w' => e = .returned (.bool (unitsB name.data.toList)) ∧ Below w.heap.size w w' := by
  have HE := Lib.hid hE
  clear hE
  go_enter Tryz.func25, Tryz.ntmps25
  go_wp2_with fail
  refine (aparse_any name w HE.out hs).mono ?_
  rintro e w1 ⟨hb, ⟨wd, ns, nv, hN, hI, rfl⟩ | ⟨hN, rfl⟩⟩
  · have HU := Lib.hid (units_of hN)
    have B1 := Lib.hid hb
    clear hb hN hI
    go_wp2_with fail
    have hc : ∀ j, j < unitZ.length → (w1.alloc (.cells #[.string ⟨#[117, 115, 101]⟩, .string ⟨#[102, 114, 101, 101]⟩, .string ⟨#[111, 118, 101, 114]⟩, .string ⟨#[112, 97, 99, 107]⟩, .string ⟨#[115, 111, 108, 100]⟩, .string ⟨#[100, 97, 121]⟩, .string ⟨#[100, 97, 121, 115]⟩] 9)).cell? ⟨w1.heap.size, 0 + j, none⟩ = some (.string (unitZ.getD j ByteArray.empty)) := by
      intro j hj
      rw [Nat.zero_add, World.cell?_alloc_new]
      have h7 : j < 7 := hj
      have : j = 0 ∨ j = 1 ∨ j = 2 ∨ j = 3 ∨ j = 4 ∨ j = 5 ∨ j = 6 := by omega
      rcases this with rfl | rfl | rfl | rfl | rfl | rfl | rfl <;> rfl
    refine (Tryz.slices_Contains_string w1.heap.size 0 7 7 unitZ ⟨wd.toArray⟩ _ (by decide) (by decide) hc).mono ?_
    rintro e w2 ⟨rfl, rfl⟩
    rw [show unitZ.take 7 = unitZ from rfl, unitZ_is, ← HU.out]
    have B2 := Lib.hid (onward (below_alloc w1 (.cells #[.string ⟨#[117, 115, 101]⟩, .string ⟨#[102, 114, 101, 101]⟩, .string ⟨#[111, 118, 101, 114]⟩, .string ⟨#[112, 97, 99, 107]⟩, .string ⟨#[115, 111, 108, 100]⟩, .string ⟨#[100, 97, 121]⟩, .string ⟨#[100, 97, 121, 115]⟩] 9)) B1.out)
    clear hc HU
    go_wp2
    go_ret
    exact ⟨rfl, B2.out⟩
  · have HU := Lib.hid (units_no hN)
    have B1 := Lib.hid hb
    clear hb hN
    go_wp2_with fail
    go_ret
    exact ⟨ret_bool HU.out.symm, B1.out⟩
end Go.Proofs.YtecbnhmnhcpcmaaGreatDoor
