/- The walk of law 22's 'goes'. -/
import Derived.Test.YtbjofejloeppkaaDoorQuE
namespace Go.Proofs.YtbjofejloeppkaaDoor
open Go.RowKit Go.Shelf Acct
set_option linter.unusedVariables false
set_option linter.unusedSimpArgs false
def wantL : List (ByteArray × Int) := [(⟨#[117, 115, 101, 47, 49, 47, 54]⟩, 6), (⟨#[102, 114, 101, 101, 47, 49, 47, 54]⟩, -2), (⟨#[112, 97, 99, 107, 47, 49, 47, 52]⟩, -3), (⟨#[111, 118, 101, 114, 47, 49, 47, 54]⟩, -1), (⟨#[100, 97, 121, 47, 49, 47, 53]⟩, 6), (⟨#[100, 97, 121, 115, 47, 49]⟩, -6)]
theorem itoa_dig (k : Nat) (h : k < 10) : Lib.itoa (k : Int) = [UInt8.ofNat (48 + k)] := by rw [Lib.itoa_nonneg, Lib.decDigits_one h]
theorem i1 : Lib.itoa 1 = [49] := itoa_dig 1 (by decide)
theorem i4 : Lib.itoa 4 = [52] := itoa_dig 4 (by decide)
theorem i5 : Lib.itoa 5 = [53] := itoa_dig 5 (by decide)
theorem i6 : Lib.itoa 6 = [54] := itoa_dig 6 (by decide)
theorem nameB_is {word : ByteArray} {ns : List Int} {r : List UInt8} (h1 : lettersL word.data.toList = true) (h2 : word.data.toList ++ partsL ns = r) (h3 : r.length ≤ 32) : nameB word ns = ⟨r.toArray⟩ := by
  unfold nameB
  rw [nameL_yes h1 (by rw [h2]; exact h3), h2]
theorem want_is : splitL 1 6 [(4, 0, 3)] 5 6 10 8 = wantL := by
  have n1 : nameB wUse [1, 6] = _ := nameB_is (r := [117, 115, 101, 47, 49, 47, 54]) (by decide) (by simp only [partsL, i1, i6]; rfl) (by decide)
  have n2 : nameB wFree [1, 6] = _ := nameB_is (r := [102, 114, 101, 101, 47, 49, 47, 54]) (by decide) (by simp only [partsL, i1, i6]; rfl) (by decide)
  have n3 : nameB wPack [1, 4] = _ := nameB_is (r := [112, 97, 99, 107, 47, 49, 47, 52]) (by decide) (by simp only [partsL, i1, i4]; rfl) (by decide)
  have n4 : nameB wOver [1, 6] = _ := nameB_is (r := [111, 118, 101, 114, 47, 49, 47, 54]) (by decide) (by simp only [partsL, i1, i6]; rfl) (by decide)
  have n5 : nameB wDay [1, 5] = _ := nameB_is (r := [100, 97, 121, 47, 49, 47, 53]) (by decide) (by simp only [partsL, i1, i5]; rfl) (by decide)
  have n6 : nameB wDays [1] = _ := nameB_is (r := [100, 97, 121, 115, 47, 49]) (by decide) (by simp only [partsL, i1]; rfl) (by decide)
  have e : splitL 1 6 [(4, 0, 3)] 5 6 10 8 = [(nameB wUse [1, 6], 6), (nameB wFree [1, 6], -2), (nameB wPack [1, 4], -3), (nameB wOver [1, 6], -1), (nameB wDay [1, 5], 6), (nameB wDays [1], -6)] := by
    have e0 : (6 : Int) = 0 ↔ False := by decide
    unfold splitL
    rw [show min (6 : Int) (max 0 (10 - 8)) = 2 from by decide, show max (0 : Int) (6 - 2) = 4 from by decide]
    have d1 : drawL 1 4 [(4, 0, 3)] = [(nameB wPack [1, 4], -3)] := by
      unfold drawL
      rw [if_pos (by decide)]
      rfl
    have d2 : drawR 4 [(4, 0, 3)] = 1 := by decide
    rw [d1, d2]
    rfl
  rw [e, n1, n2, n3, n4, n5, n6]
  rfl
theorem lit_left (W : World) (i e u : Int) (T : Nat) : LeftsAt (W.alloc (.cells #[.int .u32 i, .int .i64 e, .int .i64 u] T)) (.slice (some ⟨W.heap.size, 0, none⟩) 1 1) [(i, e, u)] := by
  refine ⟨_, 1, rfl, fun k hk => ⟨W.heap.size, 0, rfl, ?_⟩⟩
  obtain rfl : k = 0 := by simp at hk; omega
  refine ⟨?_, ?_, ?_⟩ <;> simp [World.cell?_alloc_new]
theorem ten_cells {w : World} {b : Nat} {T : Nat} {x0 x1 x2 x3 x4 x5 x6 x7 x8 x9 : Value} (h : w.heap[b]? = some (.cells #[x0, x1, x2, x3, x4, x5, x6, x7, x8, x9] T (0, 0))) :
    w.cell? ⟨b, 0, none⟩ = some x0 ∧ w.cell? ⟨b, 1, none⟩ = some x1 ∧ w.cell? ⟨b, 2, none⟩ = some x2 ∧ w.cell? ⟨b, 3, none⟩ = some x3 ∧ w.cell? ⟨b, 4, none⟩ = some x4 ∧ w.cell? ⟨b, 5, none⟩ = some x5 ∧ w.cell? ⟨b, 6, none⟩ = some x6 ∧ w.cell? ⟨b, 7, none⟩ = some x7 ∧ w.cell? ⟨b, 8, none⟩ = some x8 ∧ w.cell? ⟨b, 9, none⟩ = some x9 := by
  refine ⟨?_, ?_, ?_, ?_, ?_, ?_, ?_, ?_, ?_, ?_⟩ <;> simp [World.cell?, h]
abbrev wantC : Array Value := #[.string ⟨#[117, 115, 101, 47, 49, 47, 54]⟩, .int .i64 6, .string ⟨#[102, 114, 101, 101, 47, 49, 47, 54]⟩, .int .i64 (-2), .string ⟨#[112, 97, 99, 107, 47, 49, 47, 52]⟩, .int .i64 (-3), .string ⟨#[111, 118, 101, 114, 47, 49, 47, 54]⟩, .int .i64 (-1), .string ⟨#[100, 97, 121, 47, 49, 47, 53]⟩, .int .i64 6, .string ⟨#[100, 97, 121, 115, 47, 49]⟩, .int .i64 (-6)]
theorem lit_want (W : World) : PartsAt (W.alloc (.cells wantC 42)) (.slice (some ⟨W.heap.size, 0, none⟩) 6 6) wantL := by
  refine ⟨_, 6, rfl, fun k hk => ⟨W.heap.size, 0, rfl, ?_⟩⟩
  have h6 : k < 6 := hk
  rw [World.cell?_alloc_new, World.cell?_alloc_new]
  have : k = 0 ∨ k = 1 ∨ k = 2 ∨ k = 3 ∨ k = 4 ∨ k = 5 := by omega
  rcases this with rfl | rfl | rfl | rfl | rfl | rfl <;> exact ⟨rfl, rfl⟩
set_option maxHeartbeats 200000 in
set_option maxRecDepth 1000000 in
theorem qgoes_any (w : World) (hP : Pow w) : Calls Tryd.prog 8 #[] w fun e w' => e = .returned (.bool true) ∧ Below w.heap.size w w' := by
  have HP := Lib.hid hP
  clear hP
  go_enter Tryd.func8, Tryd.ntmps8
  go_wp2_with fail
  have HL : LeftsAt ((w.alloc (.cells #[.int .i64 0, .int .i64 0, .int .i64 0, .int .i64 10, .int .i64 0, .int .i64 0, .int .i64 8, .int .i64 0, .int .i64 2, .int .i64 3] 23)).alloc (.cells #[.int .u32 4, .int .i64 0, .int .i64 3] 37)) (.slice (some ⟨w.heap.size + 1, 0, none⟩) 1 1) [(4, 0, 3)] := by
    have := lit_left (w.alloc (.cells #[.int .i64 0, .int .i64 0, .int .i64 0, .int .i64 10, .int .i64 0, .int .i64 0, .int .i64 8, .int .i64 0, .int .i64 2, .int .i64 3] 23)) 4 0 3 37
    rw [show (w.alloc (.cells #[.int .i64 0, .int .i64 0, .int .i64 0, .int .i64 10, .int .i64 0, .int .i64 0, .int .i64 8, .int .i64 0, .int .i64 2, .int .i64 3] 23)).heap.size = w.heap.size + 1 from by simp] at this
    exact this
  have HH : ((w.alloc (.cells #[.int .i64 0, .int .i64 0, .int .i64 0, .int .i64 10, .int .i64 0, .int .i64 0, .int .i64 8, .int .i64 0, .int .i64 2, .int .i64 3] 23)).alloc (.cells #[.int .u32 4, .int .i64 0, .int .i64 3] 37)).heap[w.heap.size]? = some (.cells #[.int .i64 0, .int .i64 0, .int .i64 0, .int .i64 10, .int .i64 0, .int .i64 0, .int .i64 8, .int .i64 0, .int .i64 2, .int .i64 3] 23 (0, 0)) := stays_block (below_alloc _ _) (heap_alloc_new _ _)
  have BW : Below w.heap.size w ((w.alloc (.cells #[.int .i64 0, .int .i64 0, .int .i64 0, .int .i64 10, .int .i64 0, .int .i64 0, .int .i64 8, .int .i64 0, .int .i64 2, .int .i64 3] 23)).alloc (.cells #[.int .u32 4, .int .i64 0, .int .i64 3] 37)) := onward (below_alloc _ _) (below_alloc _ _)
  generalize (w.alloc (.cells #[.int .i64 0, .int .i64 0, .int .i64 0, .int .i64 10, .int .i64 0, .int .i64 0, .int .i64 8, .int .i64 0, .int .i64 2, .int .i64 3] 23)).alloc (.cells #[.int .u32 4, .int .i64 0, .int .i64 3] 37) = W at *
  refine (split_any 1 6 _ [(4, 0, 3)] 0 5 6 0 0 0 0 10 0 0 8 0 2 3 _ (pow_below HP.out BW) HL (by omega) (by simp) (by simp) (by omega) (by omega) (by omega) (by unfold inInt; omega) (by unfold inInt; omega)).mono ?_
  rintro e w1 ⟨rv, rfl, hb, hown⟩
  have HB := Lib.hid (onward hb BW)
  rw [want_is] at hown
  have HV := Lib.hid (stays_block hb HH)
  have HO := Lib.hid (PartsAt.of_own hown)
  clear hb hown HL BW HH
  have HW := Lib.hid (lit_want w1)
  have BL := Lib.hid (onward (below_alloc w1 (.cells wantC 42)) HB.out)
  have HO2 := Lib.hid (HO.out.below (below_alloc w1 (.cells wantC 42)))
  have HV2 := Lib.hid (stays_block (below_alloc w1 (.cells wantC 42)) HV.out)
  have s1 : w.heap.size < w1.heap.size := lt_of_block HV.out
  obtain ⟨c0, c1, c2, c3, c4, c5, c6, c7, c8, c9⟩ := ten_cells HV.out
  go_wp2_with fail
  clear c0 c1 c2 c3 c4 c5 c6 c7 c8 c9 HB HV HO s1
  generalize w1.alloc (.cells wantC 42) = W2 at *
  refine (admit_any ⟨0, 0, 0, 10, 0, 0, 8, 0, 2, 3⟩ 7 _ (by unfold Hv.ok nar; simp) (by unfold inInt; omega)).mono ?_
  rintro e w3 ⟨rfl, hb⟩
  rw [show admitI ⟨0, 0, 0, 10, 0, 0, 8, 0, 2, 3⟩ 7 = 0 from by decide]
  have HW3 := Lib.hid (HW.out.below hb)
  have B3 := Lib.hid (onward hb BL.out)
  have HO3 := Lib.hid (HO2.out.below hb)
  have HV3 := Lib.hid (stays_block hb HV2.out)
  clear hb HW BL HO2 HV2
  obtain ⟨c0, c1, c2, c3, c4, c5, c6, c7, c8, c9⟩ := ten_cells HV3.out
  go_wp2_with fail
  refine (admit_any ⟨0, 0, 0, 10, 0, 0, 8, 0, 2, 3⟩ 8 _ (by unfold Hv.ok nar; simp) (by unfold inInt; omega)).mono ?_
  rintro e w4 ⟨rfl, hb⟩
  rw [show admitI ⟨0, 0, 0, 10, 0, 0, 8, 0, 2, 3⟩ 8 = 40 from by decide]
  have HW4 := Lib.hid (HW3.out.below hb)
  have B4 := Lib.hid (onward hb B3.out)
  have HO4 := Lib.hid (HO3.out.below hb)
  clear hb HW3 B3 HO3 HV3 c0 c1 c2 c3 c4 c5 c6 c7 c8 c9
  go_wp2_with fail
  refine (same_any _ _ wantL wantL _ HO4.out HW4.out (by decide) (by decide)).mono ?_
  rintro e w5 ⟨rfl, hb⟩
  have B5 := Lib.hid (onward hb B4.out)
  clear hb HW4 B4 HO4
  rw [show decide (wantL = wantL) = true from decide_eq_true rfl]
  go_wp2
  go_ret
  exact ⟨rfl, B5.out⟩
end Go.Proofs.YtbjofejloeppkaaDoor
