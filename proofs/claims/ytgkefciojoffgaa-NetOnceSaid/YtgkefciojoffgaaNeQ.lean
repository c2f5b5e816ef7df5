/- The walk of the law NetNil. -/
import Derived.Test.YtgkefciojoffgaaNeO
namespace Go.Proofs.Ytgkefciojoffgaa
open Go.RowKit
set_option linter.unusedVariables false
set_option linter.unusedSimpArgs false
attribute [local go_sem ↓] Go.wp_at_zero Go.wp_at_succ
theorem take_nil' (k : Int) (w : World) : Calls Try.prog 15 #[.pointer none, .int .i64 k] w fun e w' => e = .returned (.tuple #[.agg #[.int .i64 0, .int .i64 0, .slice none 0 0], .int .i64 8]) ∧ Below w.heap.size w w' := take_nil k w
theorem five_cells {w : World} {b : Nat} {T : Nat} {x0 x1 x2 x3 x4 : Value} (h : w.heap[b]? = some (.cells #[x0, x1, x2, x3, x4] T (0, 0))) : b < w.heap.size ∧ w.cell? ⟨b, 0, none⟩ = some x0 ∧ w.cell? ⟨b, 1, none⟩ = some x1 ∧ w.cell? ⟨b, 2, none⟩ = some x2 ∧ w.cell? ⟨b, 3, none⟩ = some x3 ∧ w.cell? ⟨b, 4, none⟩ = some x4 := by
  refine ⟨lt_of_block h, ?_, ?_, ?_, ?_, ?_⟩ <;> simp [World.cell?, h]
set_option maxHeartbeats 4000000 in
set_option maxRecDepth 1000000 in
theorem netNil_any (d f t k : Int) (a : Option Addr) (n c : Nat) (w : World) :
    Calls Try.prog 7 #[.agg #[.int .u8 d, .int .i64 f, .int .i64 t, .slice a n c, .int .i64 k]] w fun e w' => e = .returned (.bool true) ∧ Below w.heap.size w w' := by
  have B0 := Lib.hid (below_alloc w (.cells #[.int .u8 d, .int .i64 f, .int .i64 t, .slice a n c, .int .i64 k] 45))
  have G0 := Lib.hid (heap_alloc_new w (.cells #[.int .u8 d, .int .i64 f, .int .i64 t, .slice a n c, .int .i64 k] 45))
  obtain ⟨-, -, e1, e2, e3, e4⟩ := five_cells G0.out
  go_enter Try.func7, Try.ntmps7
  go_wp2_with fail
  generalize w.alloc (.cells #[.int .u8 d, .int .i64 f, .int .i64 t, .slice a n c, .int .i64 k] 45) = W at *
  refine (take_nil' k _).mono ?_
  rintro e w1 ⟨rfl, hb⟩
  have b1 := onward (below_alloc w1 (.cells #[.int .i64 0, .int .i64 0, .slice none 0 0] 30)) hb
  obtain ⟨-, -, f1, f2, f3, f4⟩ := five_cells (stays_block b1 G0.out)
  have G1 := Lib.hid (stays_block b1 G0.out)
  have B1 := Lib.hid (onward b1 B0.out)
  clear hb b1 e1 e2 e3 e4 G0 B0
  go_wp2_with fail
  generalize w1.alloc (.cells #[.int .i64 0, .int .i64 0, .slice none 0 0] 30) = W1 at *
  refine (send_nil f t _ _).mono ?_
  rintro e w2 ⟨rfl, hb⟩
  obtain ⟨-, -, g1, g2, g3, g4⟩ := five_cells (stays_block hb G1.out)
  have G2 := Lib.hid (stays_block hb G1.out)
  have B2 := Lib.hid (onward hb B1.out)
  clear hb f1 f2 f3 f4 G1 B1
  go_wp2_with fail
  refine (drop_nil k _).mono ?_
  rintro e w3 ⟨rfl, hb⟩
  obtain ⟨-, -, f1, f2, f3, f4⟩ := five_cells (stays_block hb G2.out)
  have G3 := Lib.hid (stays_block hb G2.out)
  have B3 := Lib.hid (onward hb B2.out)
  clear hb g1 g2 g3 g4 G2 B2
  go_wp2_with fail
  refine (double_nil k _).mono ?_
  rintro e w4 ⟨rfl, rfl⟩
  go_wp2_with fail
  refine (hold_nil k _).mono ?_
  rintro e w5 ⟨rfl, hb⟩
  have B5 := Lib.hid (onward hb B3.out)
  clear hb f1 f2 f3 f4 G3 B3
  go_wp2_with fail
  refine (cut_nil 1 true _).mono ?_
  rintro e w6 ⟨rfl, rfl⟩
  go_wp2_with fail
  refine (letters_nil _).mono ?_
  rintro e w7 ⟨rfl, rfl⟩
  go_wp2_with fail
  refine (new_s w5.heap.size 1 w5 (by decide) (by decide) (Nat.le_refl _) [] (fun k hk => by cases hk)).mono ?_
  rintro e w8 ⟨rfl, hS, hb⟩
  have S8 := Lib.hid hS
  have B8 := Lib.hid (onward hb B5.out)
  have CS := fun (w : World) (C : Array Value) (n c : Nat) => Lib.run_convert_bytes_const (P := Try.prog) w 28 5 C n c Try.underlying28 Try.underlying5
  clear hS hb
  go_wp2_with fail
  have b9 := onward (below_alloc (w8.alloc (.cells #[.int .u8 97, .int .u8 98] 5 (2, 3))) (.cells #[.int .i64 0, .int .i64 1, .slice (some ⟨w8.heap.size, 0, none⟩) 2 2] 30)) (below_alloc w8 (.cells #[.int .u8 97, .int .u8 98] 5 (2, 3)))
  have k1 : ((w8.alloc (.cells #[.int .u8 97, .int .u8 98] 5 (2, 3))).alloc (.cells #[.int .i64 0, .int .i64 1, .slice (some ⟨w8.heap.size, 0, none⟩) 2 2] 30)).heap[w8.heap.size]? = some (.cells (bytesV [97, 98]).toArray 5 (2, 3)) := stays_block (below_alloc _ _) (alloc_block w8 _ _ _)
  have k2 : ((w8.alloc (.cells #[.int .u8 97, .int .u8 98] 5 (2, 3))).alloc (.cells #[.int .i64 0, .int .i64 1, .slice (some ⟨w8.heap.size, 0, none⟩) 2 2] 30)).heap[w8.heap.size + 1]? = some (.cells #[.int .i64 0, .int .i64 1, .slice (some ⟨w8.heap.size, 0, none⟩) 2 2] 30 (0, 0)) := by
    have := alloc_block (w8.alloc (.cells #[.int .u8 97, .int .u8 98] 5 (2, 3))) #[.int .i64 0, .int .i64 1, .slice (some ⟨w8.heap.size, 0, none⟩) 2 2] 30 (0, 0)
    have e : (w8.alloc (.cells #[.int .u8 97, .int .u8 98] 5 (2, 3))).heap.size = w8.heap.size + 1 := by simp
    rw [e] at this
    exact this
  have hsz : ((w8.alloc (.cells #[.int .u8 97, .int .u8 98] 5 (2, 3))).alloc (.cells #[.int .i64 0, .int .i64 1, .slice (some ⟨w8.heap.size, 0, none⟩) 2 2] 30)).heap.size = w8.heap.size + 2 := by simp
  have S9 := Lib.hid (S8.out.more b9 [w8.heap.size, w8.heap.size + 1] (fun k hk => by simp at hk; rcases hk with rfl | rfl <;> omega))
  have B9 := Lib.hid (onward b9 B8.out)
  clear b9 hsz
  generalize (w8.alloc (.cells #[.int .u8 97, .int .u8 98] 5 (2, 3))).alloc (.cells #[.int .i64 0, .int .i64 1, .slice (some ⟨w8.heap.size, 0, none⟩) 2 2] 30) = W9 at *
  have K1 := Lib.hid k1
  have K2 := Lib.hid k2
  clear k1 k2
  refine (send_s w5.heap.size w5.heap.size [w8.heap.size, w8.heap.size + 1] 1 [] false false false 0 1 _ [97, 98] _ S9.out (bytes_block K1.out) (by unfold i64; omega) (by unfold i64; omega) (by decide)).mono ?_
  rw [show sendJ 1 [] (0, 1, [97, 98]) = 0 by decide +kernel, show sendR 1 [] (0, 1, [97, 98]) = [(0, 1, [97, 98])] by decide +kernel]
  rintro e wa ⟨rfl, hS, hO, -, -, hk⟩
  have SA := Lib.hid (hS.byte (g := w8.heap.size) (by simp) 0 (.int .u8 122))
  have BA := Lib.hid ((B9.out.trans (hO.mono (by have := B5.out.size; omega))).setCell (p := ⟨w8.heap.size, 0, none⟩) (by have := B8.out.size; show w.heap.size ≤ w8.heap.size; exact this) (.int .u8 122))
  have KA := (hk w8.heap.size (by simp)).trans K1.out
  have KB := (hk (w8.heap.size + 1) (by simp)).trans K2.out
  obtain ⟨-, q0, q1, q2⟩ := three_cells KB
  have r0 : wa.cell? ⟨w8.heap.size, 0, none⟩ = some (.int .u8 97) := by simp [World.cell?, KA, bytesV]
  have r1 : wa.frozen? ⟨w8.heap.size, 0, none⟩ = false := by simp [World.frozen?, KA]
  clear hS hO hk KA KB
  go_wp2_with fail
  generalize wa.setCell ⟨w8.heap.size, 0, none⟩ (.int .u8 122) = WA at *
  clear q0 q1 q2 r0 r1
  refine (letters_s w5.heap.size w5.heap.size [w8.heap.size, w8.heap.size + 1] 1 _ false false false _ SA.out).mono ?_
  rintro e wb ⟨v', rfl, ⟨L, hown, hL, hR, hOw⟩, hb⟩
  obtain ⟨l, rfl⟩ : ∃ l, L = [l] := List.length_eq_one_iff.1 (by have := congrArg List.length hR; simpa using this)
  obtain ⟨g, cap, cur, rfl, hg, h3, h4, h5, h6, h7⟩ := own_open hown (by simp)
  obtain ⟨e0, e1, e2⟩ := row_letter (n := 0) (cap := 0) h3 h7 0 (by simp)
  obtain ⟨lf, lt', lbv, lbs⟩ := l
  obtain ⟨rfl, rfl, rfl⟩ : lf = 0 ∧ lt' = 1 ∧ lbs = [97, 98] := by
    simp only [List.map_cons, List.map_nil, List.cons.injEq, and_true] at hR
    injection hR with h1 h2
    injection h2 with h2 h3
    exact ⟨h1, h2, h3⟩
  obtain ⟨a', c', hf1, hf2, hf3⟩ := hL _ (List.mem_singleton.2 rfl)
  have hf1 : lbv = .slice a' 2 c' := hf1
  subst hf1
  obtain ⟨bb, o, rfl, hc1, -⟩ := hf3 1 (by simp)
  obtain ⟨hbb, cs, hcs⟩ := hOw _ (List.mem_singleton.2 rfl) bb rfl
  have hfz : wb.frozen? ⟨bb, o + 1, none⟩ = false := free_of_row hcs
  have hc1 : wb.cell? ⟨bb, o + 1, none⟩ = some (.int .u8 98) := hc1
  have e2 : wb.cell? ⟨g, 2, none⟩ = some (.slice (some ⟨bb, o, none⟩) 2 c') := e2
  have hcap : 1 ≤ cap := h4
  have SB := Lib.hid ((SA.out.more hb [bb] (fun k hk => by simp at hk; subst hk; exact ⟨hbb, lt_of_block hcs⟩)).byte (g := bb) (by simp) (o + 1) (.int .u8 122))
  have BB := Lib.hid ((onward hb BA.out).setCell (p := ⟨bb, o + 1, none⟩) (by have := BA.out.size; show w.heap.size ≤ bb; omega) (.int .u8 122))
  clear hown hL hR hOw h3 h4 h5 h6 h7 hb hf2 hf3 hcs e0 e1
  go_wp2_with fail
  generalize wb.setCell ⟨bb, o + 1, none⟩ (.int .u8 122) = WB at *
  refine (take_s w5.heap.size w5.heap.size _ 1 _ false false false 0 _ SB.out).mono ?_
  rw [show takeI [(0, 1, [97, 98])] false false false 0 = 0 by decide +kernel, show takeL [(0, 1, [97, 98])] false false false 0 = (0, 1, [97, 98]) by decide +kernel, show takeR [(0, 1, [97, 98])] false false false 0 = [] by decide +kernel]
  rintro e wc ⟨x, rfl, ⟨bv, rfl, hx⟩, -, hO, -⟩
  obtain ⟨ac, cc, rfl⟩ := hx.form
  have bC := below_alloc wc (.cells #[.int .i64 0, .int .i64 1, .slice ac 2 cc] 30)
  have q9 : (convert 28 9 (.slice ac 2 cc)).run Try.prog _ = .ok (.string ⟨#[97, 98]⟩) _ := conv_bytes (hx.below bC)
  have BC := Lib.hid (onward bC (BB.out.trans (hO.mono (by have := B5.out.size; omega))))
  clear hO hx bC
  go_wp2_with fail
  refine (goes_any _).mono ?_
  rintro e wd ⟨rfl, hb⟩
  have BD := Lib.hid (onward hb BC.out)
  clear hb
  go_wp2_with fail
  go_ret
  exact ⟨rfl, BD.out⟩
end Go.Proofs.Ytgkefciojoffgaa
