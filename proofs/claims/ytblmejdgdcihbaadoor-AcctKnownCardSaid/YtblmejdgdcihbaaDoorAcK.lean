/- The walk of the law AcctKnown. -/
import Derived.Test.YtblmejdgdcihbaaDoorAcI
namespace Go.Proofs.YtblmejdgdcihbaaDoor
open Go.RowKit Go.Shelf Acct
set_option linter.unusedVariables false
set_option linter.unusedSimpArgs false
def badL : List ByteArray := [⟨#[]⟩, ⟨#[117, 115, 101, 47]⟩, ⟨#[117, 115, 101, 47, 48, 49]⟩, ⟨#[117, 115, 101, 47, 43, 49]⟩, ⟨#[117, 115, 101, 47, 45, 48]⟩, ⟨#[85, 115, 101]⟩, ⟨#[117, 115, 101, 47, 49, 47]⟩, ⟨#[47, 49]⟩, ⟨#[117, 115, 101, 32, 49]⟩, ⟨#[117, 115, 101, 47, 57, 50, 50, 51, 51, 55, 50, 48, 51, 54, 56, 53, 52, 55, 55, 53, 56, 48, 56]⟩, ⟨#[97, 98, 99, 100, 101, 102, 103, 104, 105, 106, 107, 108, 109, 110, 111, 112, 113, 114, 115, 116, 117, 118, 119, 120, 121, 122, 97, 98, 99, 100, 101, 102, 103]⟩, ⟨#[117, 115, 101, 47, 49, 97]⟩]
theorem bad_named : badL.all (fun b => (namedB b.data.toList).isNone && decide (b.size ≤ 33)) = true := by decide +kernel
theorem bad_no (b : ByteArray) (h : b ∈ badL) : (∀ wd ns, ¬ Named b.data.toList wd ns) ∧ b.size ≤ 33 := by
  have := List.all_eq_true.1 bad_named b h
  rw [Bool.and_eq_true, decide_eq_true_iff] at this
  exact ⟨namedB_no (Option.isNone_iff_eq_none.1 this.1), this.2⟩
theorem bad_cells (w : World) : ∀ i, i < 12 → (w.alloc (.cells #[.string ⟨#[]⟩, .string ⟨#[117, 115, 101, 47]⟩, .string ⟨#[117, 115, 101, 47, 48, 49]⟩, .string ⟨#[117, 115, 101, 47, 43, 49]⟩, .string ⟨#[117, 115, 101, 47, 45, 48]⟩, .string ⟨#[85, 115, 101]⟩, .string ⟨#[117, 115, 101, 47, 49, 47]⟩, .string ⟨#[47, 49]⟩, .string ⟨#[117, 115, 101, 32, 49]⟩, .string ⟨#[117, 115, 101, 47, 57, 50, 50, 51, 51, 55, 50, 48, 51, 54, 56, 53, 52, 55, 55, 53, 56, 48, 56]⟩, .string ⟨#[97, 98, 99, 100, 101, 102, 103, 104, 105, 106, 107, 108, 109, 110, 111, 112, 113, 114, 115, 116, 117, 118, 119, 120, 121, 122, 97, 98, 99, 100, 101, 102, 103]⟩, .string ⟨#[117, 115, 101, 47, 49, 97]⟩] 9)).cell? ⟨w.heap.size, i, none⟩ = some (.string (badL.getD i ⟨#[]⟩)) := by
  intro i hi
  rw [World.cell?_alloc_new]
  have : i = 0 ∨ i = 1 ∨ i = 2 ∨ i = 3 ∨ i = 4 ∨ i = 5 ∨ i = 6 ∨ i = 7 ∨ i = 8 ∨ i = 9 ∨ i = 10 ∨ i = 11 := by omega
  rcases this with rfl | rfl | rfl | rfl | rfl | rfl | rfl | rfl | rfl | rfl | rfl | rfl <;> rfl
theorem kn1 : Named [97, 47, 45, 57, 50, 50, 51, 51, 55, 50, 48, 51, 54, 56, 53, 52, 55, 55, 53, 56, 48, 56] [97] [-9223372036854775808] := namedB_yes (by decide +kernel)
theorem kn2 : nameB ⟨#[97]⟩ [-9223372036854775808] = ⟨#[97, 47, 45, 57, 50, 50, 51, 51, 55, 50, 48, 51, 54, 56, 53, 52, 55, 55, 53, 56, 48, 56]⟩ := ba_ext (by decide +kernel)
theorem kn3 : nameB ⟨#[97, 98, 99, 100, 101, 102, 103, 104, 105, 106, 107, 108, 109, 110, 111, 112, 113, 114, 115, 116, 117, 118, 119, 120, 121, 122, 97, 98, 99, 100, 101, 102]⟩ [] = ⟨#[97, 98, 99, 100, 101, 102, 103, 104, 105, 106, 107, 108, 109, 110, 111, 112, 113, 114, 115, 116, 117, 118, 119, 120, 121, 122, 97, 98, 99, 100, 101, 102]⟩ := ba_ext (by decide +kernel)
theorem kn4 : nameB ⟨#[97, 98, 99, 100, 101, 102, 103, 104, 105, 106, 107, 108, 109, 110, 111, 112, 113, 114, 115, 116, 117, 118, 119, 120, 121, 122, 97, 98, 99, 100, 101, 102, 103]⟩ [] = ⟨#[]⟩ := ba_ext (by decide +kernel)
theorem kn5 : unitsB [100, 97, 121, 115, 47, 49] = true := (units_of (namedB_yes (wd := [100, 97, 121, 115]) (ns := [1]) (by decide +kernel))).trans (by decide)
theorem kn6 : unitsB [100, 97, 121, 115, 115, 47, 49] = false := (units_of (namedB_yes (wd := [100, 97, 121, 115, 115]) (ns := [1]) (by decide +kernel))).trans (by decide)
theorem litI1 (w : World) (x : Int) : IntsAt (w.alloc (.cells #[.int .i64 x] 2)) (.slice (some ⟨w.heap.size, 0, none⟩) 1 1) [x] :=
  ⟨_, 1, rfl, fun i hi => ⟨w.heap.size, 0, rfl, by
    rw [Nat.zero_add, World.cell?_alloc_new]
    obtain rfl : i = 0 := by simp at hi; omega
    rfl⟩⟩
set_option maxHeartbeats 2000000 in
set_option maxRecDepth 1000000 in
theorem known_any (w : World) (hE : EnvA w) : Calls Tryd.prog 8 #[] w fun e w' => e = .returned (.bool true) ∧ Below w.heap.size w w' := by
  have HE := Lib.hid hE
  clear hE
  go_enter Tryd.func8, Tryd.ntmps8
  go_wp2_with fail
  have HC := Lib.hid (bad_cells w)
  have B1 := Lib.hid (below_alloc w (.cells #[.string ⟨#[]⟩, .string ⟨#[117, 115, 101, 47]⟩, .string ⟨#[117, 115, 101, 47, 48, 49]⟩, .string ⟨#[117, 115, 101, 47, 43, 49]⟩, .string ⟨#[117, 115, 101, 47, 45, 48]⟩, .string ⟨#[85, 115, 101]⟩, .string ⟨#[117, 115, 101, 47, 49, 47]⟩, .string ⟨#[47, 49]⟩, .string ⟨#[117, 115, 101, 32, 49]⟩, .string ⟨#[117, 115, 101, 47, 57, 50, 50, 51, 51, 55, 50, 48, 51, 54, 56, 53, 52, 55, 55, 53, 56, 48, 56]⟩, .string ⟨#[97, 98, 99, 100, 101, 102, 103, 104, 105, 106, 107, 108, 109, 110, 111, 112, 113, 114, 115, 116, 117, 118, 119, 120, 121, 122, 97, 98, 99, 100, 101, 102, 103]⟩, .string ⟨#[117, 115, 101, 47, 49, 97]⟩] 9))
  generalize w.alloc (.cells #[.string ⟨#[]⟩, .string ⟨#[117, 115, 101, 47]⟩, .string ⟨#[117, 115, 101, 47, 48, 49]⟩, .string ⟨#[117, 115, 101, 47, 43, 49]⟩, .string ⟨#[117, 115, 101, 47, 45, 48]⟩, .string ⟨#[85, 115, 101]⟩, .string ⟨#[117, 115, 101, 47, 49, 47]⟩, .string ⟨#[47, 49]⟩, .string ⟨#[117, 115, 101, 32, 49]⟩, .string ⟨#[117, 115, 101, 47, 57, 50, 50, 51, 51, 55, 50, 48, 51, 54, 56, 53, 52, 55, 55, 53, 56, 48, 56]⟩, .string ⟨#[97, 98, 99, 100, 101, 102, 103, 104, 105, 106, 107, 108, 109, 110, 111, 112, 113, 114, 115, 116, 117, 118, 119, 120, 121, 122, 97, 98, 99, 100, 101, 102, 103]⟩, .string ⟨#[117, 115, 101, 47, 49, 97]⟩] 9) = W1 at *
  go_loopw [2] (fun i wr => ∃ k : Nat, k ≤ 12 ∧ i = .int .i64 k ∧ Below W1.heap.size W1 wr) (fun i _ => 12 - (intOf i).toNat)
  case atStart => exact ⟨0, by omega, rfl, Below.refl _ _⟩
  case round =>
    obtain ⟨k, hk, rfl, hbr⟩ := hrel
    have BR := Lib.hid hbr
    clear hbr
    by_cases hlt : k < 12
    · have c1 := stays BR.out (HC.out k hlt)
      have hl : k < badL.length := hlt
      have hb := bad_no _ (List.getElem_mem hl)
      rw [getD_at _ _ _ hl] at c1
      generalize badL[k] = b at *
      obtain ⟨hb1, hb2⟩ := hb
      have HX := Lib.hid hb1
      have HU := Lib.hid (unitsB_no hb1)
      have hi1 : (0 : Int) ≤ (k : Int) := by omega
      have hi2 : (k : Int) < 12 := by omega
      clear hb1 hl
      go_wp2_with fail
      refine (aparse_no HX.out _ (HE.out.below (onward BR.out B1.out)) (by omega)).mono ?_
      rintro e w2 ⟨rfl, hb⟩
      have c2 := stays hb c1
      have B2 := Lib.hid (onward hb BR.out)
      clear hb c1 BR
      go_wp2_with fail
      refine (units_any b _ (HE.out.below (onward B2.out B1.out)) (by omega)).mono ?_
      rintro e w3 ⟨rfl, hb⟩
      rw [HU.out]
      have B3 := Lib.hid (onward hb B2.out)
      clear hb c2 B2
      go_wp2
      go_roundw
      case rel => exact ⟨k + 1, by omega, by go_num, B3.out⟩
      case measure => simp [intOf]; omega
    · obtain rfl : k = 12 := by omega
      have B2 := Lib.hid (onward BR.out B1.out)
      clear BR
      go_wp2_with fail
      refine (aparse_yes (name := ⟨#[97, 47, 45, 57, 50, 50, 51, 51, 55, 50, 48, 51, 54, 56, 53, 52, 55, 55, 53, 56, 48, 56]⟩) kn1 _ (HE.out.below B2.out) (by decide)).mono ?_
      rintro e w3 ⟨nv, rfl, hi, hb⟩
      have B3 := Lib.hid (onward hb B2.out)
      have I3 := Lib.hid hi
      clear hb hi B2
      go_wp2_with fail
      refine (nums_any _ _ [-9223372036854775808] [-9223372036854775808] _ (I3.out.below (below_alloc _ _)) (litI1 w3 (-9223372036854775808)) (by simp) (by simp)).mono ?_
      rintro e w4 ⟨rfl, hb⟩
      rw [show decide (([-9223372036854775808] : List Int) = [-9223372036854775808]) = true from rfl]
      have B4 := Lib.hid (onward (onward hb (below_alloc _ _)) B3.out)
      clear hb B3 I3
      go_wp2_with fail
      refine (name_any ⟨#[97]⟩ _ [-9223372036854775808] _ (HE.out.below (onward (below_alloc _ _) B4.out)).pow (litI1 w4 (-9223372036854775808)) (by unfold inInt; simp) (by simp) (by decide)).mono ?_
      rintro e w5 ⟨rfl, hb⟩
      rw [kn2]
      have B5 := Lib.hid (onward (onward hb (below_alloc _ _)) B4.out)
      clear hb B4
      go_wp2_with fail
      refine (name_nil ⟨#[97, 98, 99, 100, 101, 102, 103, 104, 105, 106, 107, 108, 109, 110, 111, 112, 113, 114, 115, 116, 117, 118, 119, 120, 121, 122, 97, 98, 99, 100, 101, 102]⟩ _ (HE.out.below B5.out).pow (by decide)).mono ?_
      rintro e w6 ⟨rfl, hb⟩
      rw [kn3]
      have B6 := Lib.hid (onward hb B5.out)
      clear hb B5
      go_wp2_with fail
      refine (name_nil ⟨#[97, 98, 99, 100, 101, 102, 103, 104, 105, 106, 107, 108, 109, 110, 111, 112, 113, 114, 115, 116, 117, 118, 119, 120, 121, 122, 97, 98, 99, 100, 101, 102, 103]⟩ _ (HE.out.below B6.out).pow (by decide)).mono ?_
      rintro e w7 ⟨rfl, hb⟩
      rw [kn4]
      have B7 := Lib.hid (onward hb B6.out)
      clear hb B6
      go_wp2_with fail
      refine (units_any ⟨#[100, 97, 121, 115, 47, 49]⟩ _ (HE.out.below B7.out) (by decide)).mono ?_
      rintro e w8 ⟨rfl, hb⟩
      rw [show unitsB (ByteArray.mk #[100, 97, 121, 115, 47, 49]).data.toList = true from kn5]
      have B8 := Lib.hid (onward hb B7.out)
      clear hb B7
      go_wp2_with fail
      refine (units_any ⟨#[100, 97, 121, 115, 115, 47, 49]⟩ _ (HE.out.below B8.out) (by decide)).mono ?_
      rintro e w9 ⟨rfl, hb⟩
      rw [show unitsB (ByteArray.mk #[100, 97, 121, 115, 115, 47, 49]).data.toList = false from kn6]
      have B9 := Lib.hid (onward hb B8.out)
      clear hb B8
      go_wp2_with fail
      refine (agoes_tail w _ HE.out B9.out).mono ?_
      rintro e wa ⟨rfl, hb⟩
      have Ba := Lib.hid hb
      clear hb
      go_wp2
      go_ret
      exact ⟨rfl, Ba.out⟩
end Go.Proofs.YtblmejdgdcihbaaDoor
