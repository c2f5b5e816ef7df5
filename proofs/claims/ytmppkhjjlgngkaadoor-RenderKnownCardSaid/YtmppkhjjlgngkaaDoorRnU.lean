/- The walk of RenderKnown. (Printed by gen_rnu.py.) -/
import Derived.Test.YtmppkhjjlgngkaaDoorRnS
namespace Go.Proofs.YtmppkhjjlgngkaaDoor
open Go.RowKit Civ Ren Go.Shelf
set_option linter.unusedVariables false
set_option linter.unusedSimpArgs false
set_option maxRecDepth 100000
def knownV : Ren.Inv := ⟨1, 2, 23640, [⟨2, 0, 0, 7, 0⟩, ⟨3, 1, 0, 2, 4⟩], 310, 5⟩
abbrev knownL : List UInt8 := [105, 110, 118, 111, 105, 99, 101, 32, 49, 10, 116, 101, 110, 97, 110, 116, 32, 50, 10, 109, 111, 110, 116, 104, 32, 49, 57, 55, 48, 45, 48, 49, 10, 112, 97, 99, 107, 32, 117, 110, 105, 116, 115, 32, 55, 10, 111, 118, 101, 114, 32, 112, 108, 97, 110, 32, 49, 32, 117, 110, 105, 116, 115, 32, 50, 32, 97, 109, 111, 117, 110, 116, 32, 52, 10, 116, 111, 116, 97, 108, 32, 51, 49, 48, 10, 99, 114, 101, 100, 105, 116, 101, 100, 32, 53, 10]
theorem text_known : textL knownV = knownL := by decide +kernel
theorem may_known : mayB knownV = true := by decide +kernel
theorem ok_known : knownV.ok := by
  refine ⟨?_, ?_, ?_, ?_, ?_, fun l hl => ?_⟩
  · unfold knownV u32; decide
  · unfold knownV u32; decide
  · unfold knownV Acct.inInt; decide
  · unfold knownV Acct.inInt; decide
  · unfold knownV Acct.inInt; decide
  · simp [knownV] at hl
    rcases hl with rfl | rfl <;> (unfold Ren.Ln.ok u32 Acct.inInt; decide)
def bad0 : Ren.Inv := ⟨0, 0, 0, [], 0, 0⟩
theorem may_bad0 : mayB bad0 = false := by decide +kernel
theorem ok_bad0 : bad0.ok := by
  refine ⟨?_, ?_, ?_, ?_, ?_, fun l hl => ?_⟩
  · unfold bad0 u32; decide
  · unfold bad0 u32; decide
  · unfold bad0 Acct.inInt; decide
  · unfold bad0 Acct.inInt; decide
  · unfold bad0 Acct.inInt; decide
  · simp [bad0] at hl
def bad1 : Ren.Inv := ⟨1, 2, 11, [⟨1, 3, 31, 0, 310⟩], 310, 0⟩
theorem may_bad1 : mayB bad1 = false := by decide +kernel
theorem ok_bad1 : bad1.ok := by
  refine ⟨?_, ?_, ?_, ?_, ?_, fun l hl => ?_⟩
  · unfold bad1 u32; decide
  · unfold bad1 u32; decide
  · unfold bad1 Acct.inInt; decide
  · unfold bad1 Acct.inInt; decide
  · unfold bad1 Acct.inInt; decide
  · simp [bad1] at hl
    subst hl
    unfold Ren.Ln.ok u32 Acct.inInt
    decide
def bad2 : Ren.Inv := ⟨1, 2, 23640, [⟨1, 3, 31, 0, 310⟩], -1, 0⟩
theorem may_bad2 : mayB bad2 = false := by decide +kernel
theorem ok_bad2 : bad2.ok := by
  refine ⟨?_, ?_, ?_, ?_, ?_, fun l hl => ?_⟩
  · unfold bad2 u32; decide
  · unfold bad2 u32; decide
  · unfold bad2 Acct.inInt; decide
  · unfold bad2 Acct.inInt; decide
  · unfold bad2 Acct.inInt; decide
  · simp [bad2] at hl
    subst hl
    unfold Ren.Ln.ok u32 Acct.inInt
    decide
def bad3 : Ren.Inv := ⟨1, 2, 23640, [⟨4, 0, 0, 0, 0⟩], 310, 0⟩
theorem may_bad3 : mayB bad3 = false := by decide +kernel
theorem ok_bad3 : bad3.ok := by
  refine ⟨?_, ?_, ?_, ?_, ?_, fun l hl => ?_⟩
  · unfold bad3 u32; decide
  · unfold bad3 u32; decide
  · unfold bad3 Acct.inInt; decide
  · unfold bad3 Acct.inInt; decide
  · unfold bad3 Acct.inInt; decide
  · simp [bad3] at hl
    subst hl
    unfold Ren.Ln.ok u32 Acct.inInt
    decide
def bad4 : Ren.Inv := ⟨1, 2, 23640, [⟨1, 0, 0, 1, 0⟩], 310, 0⟩
theorem may_bad4 : mayB bad4 = false := by decide +kernel
theorem ok_bad4 : bad4.ok := by
  refine ⟨?_, ?_, ?_, ?_, ?_, fun l hl => ?_⟩
  · unfold bad4 u32; decide
  · unfold bad4 u32; decide
  · unfold bad4 Acct.inInt; decide
  · unfold bad4 Acct.inInt; decide
  · unfold bad4 Acct.inInt; decide
  · simp [bad4] at hl
    subst hl
    unfold Ren.Ln.ok u32 Acct.inInt
    decide
def bad5 : Ren.Inv := ⟨1, 2, 23640, [⟨2, 0, 0, 0, 1⟩], 310, 0⟩
theorem may_bad5 : mayB bad5 = false := by decide +kernel
theorem ok_bad5 : bad5.ok := by
  refine ⟨?_, ?_, ?_, ?_, ?_, fun l hl => ?_⟩
  · unfold bad5 u32; decide
  · unfold bad5 u32; decide
  · unfold bad5 Acct.inInt; decide
  · unfold bad5 Acct.inInt; decide
  · unfold bad5 Acct.inInt; decide
  · simp [bad5] at hl
    subst hl
    unfold Ren.Ln.ok u32 Acct.inInt
    decide
def bad6 : Ren.Inv := ⟨1, 2, 23640, [⟨3, 0, 1, 0, 0⟩], 310, 0⟩
theorem may_bad6 : mayB bad6 = false := by decide +kernel
theorem ok_bad6 : bad6.ok := by
  refine ⟨?_, ?_, ?_, ?_, ?_, fun l hl => ?_⟩
  · unfold bad6 u32; decide
  · unfold bad6 u32; decide
  · unfold bad6 Acct.inInt; decide
  · unfold bad6 Acct.inInt; decide
  · unfold bad6 Acct.inInt; decide
  · simp [bad6] at hl
    subst hl
    unfold Ren.Ln.ok u32 Acct.inInt
    decide
theorem none0 : parseR (⟨#[]⟩ : ByteArray).data.toList = none := by decide +kernel
theorem none1 : parseR (⟨#[105, 110, 118, 111, 105, 99, 101, 32, 49, 10]⟩ : ByteArray).data.toList = none := by decide +kernel
theorem none2 : parseR (⟨#[105, 110, 118, 111, 105, 99, 101, 32, 48, 49, 10, 116, 101, 110, 97, 110, 116, 32, 50, 10, 109, 111, 110, 116, 104, 32, 49, 57, 55, 48, 45, 48, 49, 10, 116, 111, 116, 97, 108, 32, 48, 10]⟩ : ByteArray).data.toList = none := by decide +kernel
theorem none3 : parseR (⟨#[105, 110, 118, 111, 105, 99, 101, 32, 49, 10, 116, 101, 110, 97, 110, 116, 32, 50, 10, 109, 111, 110, 116, 104, 32, 49, 57, 55, 48, 45, 49, 51, 10, 116, 111, 116, 97, 108, 32, 48, 10]⟩ : ByteArray).data.toList = none := by decide +kernel
theorem none4 : parseR (⟨#[105, 110, 118, 111, 105, 99, 101, 32, 49, 10, 116, 101, 110, 97, 110, 116, 32, 50, 10, 109, 111, 110, 116, 104, 32, 49, 57, 55, 48, 45, 48, 49, 10, 116, 111, 116, 97, 108, 32, 48, 10, 99, 114, 101, 100, 105, 116, 101, 100, 32, 48, 10]⟩ : ByteArray).data.toList = none := by decide +kernel
theorem none5 : parseR (⟨#[105, 110, 118, 111, 105, 99, 101, 32, 52, 50, 57, 52, 57, 54, 55, 50, 57, 55, 10, 116, 101, 110, 97, 110, 116, 32, 50, 10, 109, 111, 110, 116, 104, 32, 49, 57, 55, 48, 45, 48, 49, 10, 116, 111, 116, 97, 108, 32, 48, 10]⟩ : ByteArray).data.toList = none := by decide +kernel
theorem none6 : parseR (⟨#[105, 110, 118, 111, 105, 99, 101, 32, 49, 10, 116, 101, 110, 97, 110, 116, 32, 50, 10, 109, 111, 110, 116, 104, 32, 49, 57, 55, 48, 45, 48, 49, 10, 116, 111, 116, 97, 108, 10]⟩ : ByteArray).data.toList = none := by decide +kernel
theorem none7 : parseR (⟨#[105, 110, 118, 111, 105, 99, 101, 32, 49, 10, 116, 101, 110, 97, 110, 116, 32, 50, 10, 109, 111, 110, 116, 104, 32, 49, 57, 55, 48, 45, 48, 49, 10, 98, 97, 115, 101, 32, 112, 108, 97, 110, 10, 116, 111, 116, 97, 108, 32, 48, 10]⟩ : ByteArray).data.toList = none := by decide +kernel
theorem rows_block {w : World} {b : Nat} {T : TypeId} {cs : Array Value} (L : List Ren.Ln) (h : w.heap[b]? = some (.cells cs T (0, 0))) (hc : cs.toList = (L.map Ren.Ln.cells).flatten) (hn : L.length ≤ maxLen) : RowsIn w (.slice (some ⟨b, 0, none⟩) L.length L.length) 5 (L.map Ren.Ln.cells) := by
  refine ⟨_, L.length, by rw [List.length_map], by rw [List.length_map]; exact Nat.le_refl _, hn, fun i hi => ⟨b, 0, rfl, lt_of_block h, fun j hj => ?_⟩⟩
  rw [cell_of_row h, ← flat_get 5 _ (cellsL_len L) i j hi hj, ← hc, Nat.zero_add, Array.getElem?_toList]
/-- a line of its own is put where a block says -/
theorem put_line {W : World} {b j n : Nat} {cs : Array Value} {T U : TypeId} (ln : Array Value) (h : W.heap[b]? = some (.cells cs T (0, 0))) :
    ((W.setCell ⟨b, j, none⟩ (.slice (some ⟨W.heap.size, 0, none⟩) n n)).alloc (.cells ln U)).heap[b]? = some (.cells (cs.setIfInBounds j (.slice (some ⟨W.heap.size, 0, none⟩) n n)) T (0, 0)) ∧
    ((W.setCell ⟨b, j, none⟩ (.slice (some ⟨W.heap.size, 0, none⟩) n n)).alloc (.cells ln U)).heap[W.heap.size]? = some (.cells ln U (0, 0)) ∧
    Kept (fun k => k = b) W ((W.setCell ⟨b, j, none⟩ (.slice (some ⟨W.heap.size, 0, none⟩) n n)).alloc (.cells ln U)) := by
  have hk := (Kept.refl (fun k => k = b) W).set ⟨b, j, none⟩ (.slice (some ⟨W.heap.size, 0, none⟩) n n) rfl
  have hs : (W.setCell ⟨b, j, none⟩ (.slice (some ⟨W.heap.size, 0, none⟩) n n)).heap.size = W.heap.size := by simp
  have hb := below_alloc (W.setCell ⟨b, j, none⟩ (.slice (some ⟨W.heap.size, 0, none⟩) n n)) (.cells ln U)
  refine ⟨stays_block hb (set_block h), ?_, hk.trans (Kept.of_below hb _)⟩
  have h2 := heap_alloc_new (W.setCell ⟨b, j, none⟩ (.slice (some ⟨W.heap.size, 0, none⟩) n n)) (.cells ln U)
  rw [hs] at h2
  exact h2
theorem below_kept {B b : Nat} {w W W' : World} (h : Below B w W) (k : Kept (fun k => k = b) W W') (hB : B ≤ W.heap.size) (hb : B ≤ b) : Below B w W' := h.trans (k.below hB (fun q hq => by omega))
set_option maxHeartbeats 16000000 in
set_option maxRecDepth 1000000 in
theorem rknown_any (w : World) (hE : EnvR w) : Calls Tryd.prog 6 #[] w fun e w' => e = .returned (.bool true) ∧ Below w.heap.size w w' := by
  have GO := Lib.hid (fun (W : World) (hb : Below w.heap.size w W) => goesR_tail w W hE hb)
  have HE := Lib.hid hE
  clear hE
  go_enter Tryd.func6, Tryd.ntmps6
  go_wp2_with fail
  refine (one_any w).mono ?_
  rintro e w1 ⟨lv, rfl, hl, hb⟩
  obtain ⟨a, c, rfl⟩ := ln_form hl
  have B1 := Lib.hid hb
  clear hl hb
  have hv : oneV.val (.slice a oneV.ls.length c) = .agg #[.int .u32 1, .int .u32 2, .int .i64 23640, .slice a 1 c, .int .i64 310, .int .i64 0] := rfl
  rw [hv]
  clear hv
  have P1 := Lib.hid (heap_alloc_new w1 (.cells #[.int .u32 1, .int .u32 2, .int .i64 23640, .slice a 1 c, .int .i64 310, .int .i64 0] 25))
  have B2 := Lib.hid (onward (below_alloc w1 (.cells #[.int .u32 1, .int .u32 2, .int .i64 23640, .slice a 1 c, .int .i64 310, .int .i64 0] 25)) B1.out)
  have hs1 : w.heap.size ≤ w1.heap.size := B1.out.size
  go_upto_region 2 with fail
  generalize w1.alloc (.cells #[.int .u32 1, .int .u32 2, .int .i64 23640, .slice a 1 c, .int .i64 310, .int .i64 0] 25) = W1 at *
  -- the lines
  obtain ⟨p1, p2, p3⟩ := put_line (j := 3) (n := 2) (U := 37) #[.int .u8 2, .int .u32 0, .int .i64 0, .int .i64 7, .int .i64 0, .int .u8 3, .int .u32 1, .int .i64 0, .int .i64 2, .int .i64 4] P1.out
  have P2 := Lib.hid p1
  have L2 := Lib.hid p2
  have B3 := Lib.hid (below_kept B2.out p3 B2.out.size hs1)
  have hne := lt_of_block P1.out
  obtain ⟨-, -, -, -, z3, -, -⟩ := cells6 (stays_block (below_alloc W1 (.cells #[.int .u8 2, .int .u32 0, .int .i64 0, .int .i64 7, .int .i64 0, .int .u8 3, .int .u32 1, .int .i64 0, .int .i64 2, .int .i64 4] 37)) P1.out)
  have hf : (W1.alloc (.cells #[.int .u8 2, .int .u32 0, .int .i64 0, .int .i64 7, .int .i64 0, .int .u8 3, .int .u32 1, .int .i64 0, .int .i64 2, .int .i64 4] 37)).frozen? ⟨w1.heap.size, 3, none⟩ = false := free_of_row (stays_block (below_alloc W1 _) P1.out)
  clear p1 p2 p3
  go_upto_region 3 with fail
  clear z3 hf P1 B2 B1
  generalize (W1.setCell ⟨w1.heap.size, 3, none⟩ (.slice (some ⟨W1.heap.size, 0, none⟩) 2 2)).alloc (.cells #[.int .u8 2, .int .u32 0, .int .i64 0, .int .i64 7, .int .i64 0, .int .u8 3, .int .u32 1, .int .i64 0, .int .i64 2, .int .i64 4] 37) = W2 at *
  obtain ⟨-, -, -, -, -, -, z5⟩ := cells6 P2.out
  have hf : W2.frozen? ⟨w1.heap.size, 5, none⟩ = false := free_of_row P2.out
  have KS := (Kept.refl (fun k => k = w1.heap.size) W2).set ⟨w1.heap.size, 5, none⟩ (.int .i64 5) rfl
  have P3 : Hid ((W2.setCell ⟨w1.heap.size, 5, none⟩ (.int .i64 5)).heap[w1.heap.size]? = some (.cells #[.int .u32 1, .int .u32 2, .int .i64 23640, .slice (some ⟨W1.heap.size, 0, none⟩) 2 2, .int .i64 310, .int .i64 5] 25 (0, 0))) := set_block P2.out
  have L3 := Lib.hid ((KS.block _ (lt_of_block L2.out) (by omega)).trans L2.out)
  have B4 := Lib.hid (below_kept B3.out KS B3.out.size hs1)
  clear KS
  go_upto_region 4 with fail
  clear z5 hf P2 L2 B3
  generalize W2.setCell ⟨w1.heap.size, 5, none⟩ (.int .i64 5) = W3 at *
  have TX := Lib.hid (rtext_any knownV (.slice (some ⟨W1.heap.size, 0, none⟩) 2 2) W3 (HE.out.below B4.out).env (rows_block knownV.ls L3.out rfl (by unfold maxLen knownV; simp)) ok_known)
  rw [text_known, if_pos may_known] at TX
  obtain ⟨-, x0, x1, x2, x3, x4, x5⟩ := cells6 P3.out
  go_wp2_with fail
  clear x0 x1 x2 x3 x4 x5
  refine TX.out.mono ?_
  rintro e w2 ⟨rfl, hb⟩
  have B5 := Lib.hid (onward hb B4.out)
  clear hb TX P3 L3 B4 hne hs1
  go_wp2_with fail
  refine (one_any _).mono ?_
  rintro e y1 ⟨lv, rfl, hl, hb⟩
  obtain ⟨a1, c1, rfl⟩ := ln_form hl
  have Y1 := Lib.hid (onward hb B5.out)
  have R1_1 : Hid (RowsIn y1 (.slice a1 1 c1) 5 (oneV.ls.map Ren.Ln.cells)) := hl
  clear hl hb 
  have hv : oneV.val (.slice a1 oneV.ls.length c1) = .agg #[.int .u32 1, .int .u32 2, .int .i64 23640, .slice a1 1 c1, .int .i64 310, .int .i64 0] := rfl
  rw [hv]
  clear hv
  go_wp2_with fail
  refine (one_any _).mono ?_
  rintro e y2 ⟨lv, rfl, hl, hb⟩
  obtain ⟨a2, c2, rfl⟩ := ln_form hl
  have Y2 := Lib.hid (onward hb Y1.out)
  have R2_2 : Hid (RowsIn y2 (.slice a2 1 c2) 5 (oneV.ls.map Ren.Ln.cells)) := hl
  have R1_2 := Lib.hid (R1_1.out.below hb)
  clear hl hb R1_1
  have hv : oneV.val (.slice a2 oneV.ls.length c2) = .agg #[.int .u32 1, .int .u32 2, .int .i64 23640, .slice a2 1 c2, .int .i64 310, .int .i64 0] := rfl
  rw [hv]
  clear hv
  go_wp2_with fail
  refine (one_any _).mono ?_
  rintro e y3 ⟨lv, rfl, hl, hb⟩
  obtain ⟨a3, c3, rfl⟩ := ln_form hl
  have Y3 := Lib.hid (onward hb Y2.out)
  have R3_3 : Hid (RowsIn y3 (.slice a3 1 c3) 5 (oneV.ls.map Ren.Ln.cells)) := hl
  have R1_3 := Lib.hid (R1_2.out.below hb)
  have R2_3 := Lib.hid (R2_2.out.below hb)
  clear hl hb R1_2 R2_2
  have hv : oneV.val (.slice a3 oneV.ls.length c3) = .agg #[.int .u32 1, .int .u32 2, .int .i64 23640, .slice a3 1 c3, .int .i64 310, .int .i64 0] := rfl
  rw [hv]
  clear hv
  go_wp2_with fail
  refine (one_any _).mono ?_
  rintro e y4 ⟨lv, rfl, hl, hb⟩
  obtain ⟨a4, c4, rfl⟩ := ln_form hl
  have Y4 := Lib.hid (onward hb Y3.out)
  have R4_4 : Hid (RowsIn y4 (.slice a4 1 c4) 5 (oneV.ls.map Ren.Ln.cells)) := hl
  have R1_4 := Lib.hid (R1_3.out.below hb)
  have R2_4 := Lib.hid (R2_3.out.below hb)
  have R3_4 := Lib.hid (R3_3.out.below hb)
  clear hl hb R1_3 R2_3 R3_3
  have hv : oneV.val (.slice a4 oneV.ls.length c4) = .agg #[.int .u32 1, .int .u32 2, .int .i64 23640, .slice a4 1 c4, .int .i64 310, .int .i64 0] := rfl
  rw [hv]
  clear hv
  go_wp2_with fail
  refine (one_any _).mono ?_
  rintro e y5 ⟨lv, rfl, hl, hb⟩
  obtain ⟨a5, c5, rfl⟩ := ln_form hl
  have Y5 := Lib.hid (onward hb Y4.out)
  have R5_5 : Hid (RowsIn y5 (.slice a5 1 c5) 5 (oneV.ls.map Ren.Ln.cells)) := hl
  have R1_5 := Lib.hid (R1_4.out.below hb)
  have R2_5 := Lib.hid (R2_4.out.below hb)
  have R3_5 := Lib.hid (R3_4.out.below hb)
  have R4_5 := Lib.hid (R4_4.out.below hb)
  clear hl hb R1_4 R2_4 R3_4 R4_4
  have hv : oneV.val (.slice a5 oneV.ls.length c5) = .agg #[.int .u32 1, .int .u32 2, .int .i64 23640, .slice a5 1 c5, .int .i64 310, .int .i64 0] := rfl
  rw [hv]
  clear hv
  go_wp2_with fail
  refine (one_any _).mono ?_
  rintro e y6 ⟨lv, rfl, hl, hb⟩
  obtain ⟨a6, c6, rfl⟩ := ln_form hl
  have Y6 := Lib.hid (onward hb Y5.out)
  have R6_6 : Hid (RowsIn y6 (.slice a6 1 c6) 5 (oneV.ls.map Ren.Ln.cells)) := hl
  have R1_6 := Lib.hid (R1_5.out.below hb)
  have R2_6 := Lib.hid (R2_5.out.below hb)
  have R3_6 := Lib.hid (R3_5.out.below hb)
  have R4_6 := Lib.hid (R4_5.out.below hb)
  have R5_6 := Lib.hid (R5_5.out.below hb)
  clear hl hb R1_5 R2_5 R3_5 R4_5 R5_5
  have hv : oneV.val (.slice a6 oneV.ls.length c6) = .agg #[.int .u32 1, .int .u32 2, .int .i64 23640, .slice a6 1 c6, .int .i64 310, .int .i64 0] := rfl
  rw [hv]
  clear hv
  have Q0 := Lib.hid (heap_alloc_new y6 (.cells #[.int .u32 0, .int .u32 0, .int .i64 0, .slice none 0 0, .int .i64 0, .int .i64 0, .int .u32 1, .int .u32 2, .int .i64 23640, .slice a1 1 c1, .int .i64 310, .int .i64 0, .int .u32 1, .int .u32 2, .int .i64 23640, .slice a2 1 c2, .int .i64 310, .int .i64 0, .int .u32 1, .int .u32 2, .int .i64 23640, .slice a3 1 c3, .int .i64 310, .int .i64 0, .int .u32 1, .int .u32 2, .int .i64 23640, .slice a4 1 c4, .int .i64 310, .int .i64 0, .int .u32 1, .int .u32 2, .int .i64 23640, .slice a5 1 c5, .int .i64 310, .int .i64 0, .int .u32 1, .int .u32 2, .int .i64 23640, .slice a6 1 c6, .int .i64 310, .int .i64 0] 25))
  have Z0 := Lib.hid (below_alloc y6 (.cells #[.int .u32 0, .int .u32 0, .int .i64 0, .slice none 0 0, .int .i64 0, .int .i64 0, .int .u32 1, .int .u32 2, .int .i64 23640, .slice a1 1 c1, .int .i64 310, .int .i64 0, .int .u32 1, .int .u32 2, .int .i64 23640, .slice a2 1 c2, .int .i64 310, .int .i64 0, .int .u32 1, .int .u32 2, .int .i64 23640, .slice a3 1 c3, .int .i64 310, .int .i64 0, .int .u32 1, .int .u32 2, .int .i64 23640, .slice a4 1 c4, .int .i64 310, .int .i64 0, .int .u32 1, .int .u32 2, .int .i64 23640, .slice a5 1 c5, .int .i64 310, .int .i64 0, .int .u32 1, .int .u32 2, .int .i64 23640, .slice a6 1 c6, .int .i64 310, .int .i64 0] 25))
  go_upto_region 6 with fail
  generalize y6.alloc (.cells #[.int .u32 0, .int .u32 0, .int .i64 0, .slice none 0 0, .int .i64 0, .int .i64 0, .int .u32 1, .int .u32 2, .int .i64 23640, .slice a1 1 c1, .int .i64 310, .int .i64 0, .int .u32 1, .int .u32 2, .int .i64 23640, .slice a2 1 c2, .int .i64 310, .int .i64 0, .int .u32 1, .int .u32 2, .int .i64 23640, .slice a3 1 c3, .int .i64 310, .int .i64 0, .int .u32 1, .int .u32 2, .int .i64 23640, .slice a4 1 c4, .int .i64 310, .int .i64 0, .int .u32 1, .int .u32 2, .int .i64 23640, .slice a5 1 c5, .int .i64 310, .int .i64 0, .int .u32 1, .int .u32 2, .int .i64 23640, .slice a6 1 c6, .int .i64 310, .int .i64 0] 25) = V0 at *
  have z : V0.cell? ⟨y6.heap.size, 8, none⟩ = some (.int .i64 23640 : Value) := cell_of_row Q0.out
  have hf : V0.frozen? ⟨y6.heap.size, 8, none⟩ = false := free_of_row Q0.out
  have KS := (Kept.refl (fun k => k = y6.heap.size) V0).set ⟨y6.heap.size, 8, none⟩ (.int .i64 11) rfl
  have Q1 : Hid ((V0.setCell ⟨y6.heap.size, 8, none⟩ (.int .i64 11)).heap[y6.heap.size]? = some (.cells #[.int .u32 0, .int .u32 0, .int .i64 0, .slice none 0 0, .int .i64 0, .int .i64 0, .int .u32 1, .int .u32 2, .int .i64 11, .slice a1 1 c1, .int .i64 310, .int .i64 0, .int .u32 1, .int .u32 2, .int .i64 23640, .slice a2 1 c2, .int .i64 310, .int .i64 0, .int .u32 1, .int .u32 2, .int .i64 23640, .slice a3 1 c3, .int .i64 310, .int .i64 0, .int .u32 1, .int .u32 2, .int .i64 23640, .slice a4 1 c4, .int .i64 310, .int .i64 0, .int .u32 1, .int .u32 2, .int .i64 23640, .slice a5 1 c5, .int .i64 310, .int .i64 0, .int .u32 1, .int .u32 2, .int .i64 23640, .slice a6 1 c6, .int .i64 310, .int .i64 0] 25 (0, 0))) := set_block Q0.out
  have Z1 := Lib.hid (below_kept Z0.out KS Z0.out.size (Nat.le_refl _))
  clear KS
  go_upto_region 7 with fail
  clear z hf
  generalize V0.setCell ⟨y6.heap.size, 8, none⟩ (.int .i64 11) = V1 at *
  have z : V1.cell? ⟨y6.heap.size, 16, none⟩ = some (.int .i64 310 : Value) := cell_of_row Q1.out
  have hf : V1.frozen? ⟨y6.heap.size, 16, none⟩ = false := free_of_row Q1.out
  have KS := (Kept.refl (fun k => k = y6.heap.size) V1).set ⟨y6.heap.size, 16, none⟩ (.int .i64 (-1)) rfl
  have Q2 : Hid ((V1.setCell ⟨y6.heap.size, 16, none⟩ (.int .i64 (-1))).heap[y6.heap.size]? = some (.cells #[.int .u32 0, .int .u32 0, .int .i64 0, .slice none 0 0, .int .i64 0, .int .i64 0, .int .u32 1, .int .u32 2, .int .i64 11, .slice a1 1 c1, .int .i64 310, .int .i64 0, .int .u32 1, .int .u32 2, .int .i64 23640, .slice a2 1 c2, .int .i64 (-1), .int .i64 0, .int .u32 1, .int .u32 2, .int .i64 23640, .slice a3 1 c3, .int .i64 310, .int .i64 0, .int .u32 1, .int .u32 2, .int .i64 23640, .slice a4 1 c4, .int .i64 310, .int .i64 0, .int .u32 1, .int .u32 2, .int .i64 23640, .slice a5 1 c5, .int .i64 310, .int .i64 0, .int .u32 1, .int .u32 2, .int .i64 23640, .slice a6 1 c6, .int .i64 310, .int .i64 0] 25 (0, 0))) := set_block Q1.out
  have Z2 := Lib.hid (below_kept Z1.out KS Z1.out.size (Nat.le_refl _))
  clear KS
  go_upto_region 8 with fail
  clear z hf
  generalize V1.setCell ⟨y6.heap.size, 16, none⟩ (.int .i64 (-1)) = V2 at *
  obtain ⟨p1, p2, p3⟩ := put_line (j := 21) (n := 1) (U := 37) #[.int .u8 4, .int .u32 0, .int .i64 0, .int .i64 0, .int .i64 0] Q2.out
  have Q3 : Hid (((V2.setCell ⟨y6.heap.size, 21, none⟩ (.slice (some ⟨V2.heap.size, 0, none⟩) 1 1)).alloc (.cells #[.int .u8 4, .int .u32 0, .int .i64 0, .int .i64 0, .int .i64 0] 37)).heap[y6.heap.size]? = some (.cells #[.int .u32 0, .int .u32 0, .int .i64 0, .slice none 0 0, .int .i64 0, .int .i64 0, .int .u32 1, .int .u32 2, .int .i64 11, .slice a1 1 c1, .int .i64 310, .int .i64 0, .int .u32 1, .int .u32 2, .int .i64 23640, .slice a2 1 c2, .int .i64 (-1), .int .i64 0, .int .u32 1, .int .u32 2, .int .i64 23640, .slice (some ⟨V2.heap.size, 0, none⟩) 1 1, .int .i64 310, .int .i64 0, .int .u32 1, .int .u32 2, .int .i64 23640, .slice a4 1 c4, .int .i64 310, .int .i64 0, .int .u32 1, .int .u32 2, .int .i64 23640, .slice a5 1 c5, .int .i64 310, .int .i64 0, .int .u32 1, .int .u32 2, .int .i64 23640, .slice a6 1 c6, .int .i64 310, .int .i64 0] 25 (0, 0))) := p1
  have N3_3 := Lib.hid p2
  have Z3 := Lib.hid (below_kept Z2.out p3 Z2.out.size (Nat.le_refl _))
  have z : (V2.alloc (.cells #[.int .u8 4, .int .u32 0, .int .i64 0, .int .i64 0, .int .i64 0] 37)).cell? ⟨y6.heap.size, 21, none⟩ = some (.slice a3 1 c3) := cell_of_row (stays_block (below_alloc V2 _) Q2.out)
  have hf : (V2.alloc (.cells #[.int .u8 4, .int .u32 0, .int .i64 0, .int .i64 0, .int .i64 0] 37)).frozen? ⟨y6.heap.size, 21, none⟩ = false := free_of_row (stays_block (below_alloc V2 _) Q2.out)
  have hs2 : y6.heap.size < V2.heap.size := lt_of_block Q2.out
  clear p1 p2 p3 
  go_upto_region 9 with fail
  clear z hf
  generalize (V2.setCell ⟨y6.heap.size, 21, none⟩ (.slice (some ⟨V2.heap.size, 0, none⟩) 1 1)).alloc (.cells #[.int .u8 4, .int .u32 0, .int .i64 0, .int .i64 0, .int .i64 0] 37) = V3 at *
  obtain ⟨p1, p2, p3⟩ := put_line (j := 27) (n := 1) (U := 37) #[.int .u8 1, .int .u32 0, .int .i64 0, .int .i64 1, .int .i64 0] Q3.out
  have Q4 : Hid (((V3.setCell ⟨y6.heap.size, 27, none⟩ (.slice (some ⟨V3.heap.size, 0, none⟩) 1 1)).alloc (.cells #[.int .u8 1, .int .u32 0, .int .i64 0, .int .i64 1, .int .i64 0] 37)).heap[y6.heap.size]? = some (.cells #[.int .u32 0, .int .u32 0, .int .i64 0, .slice none 0 0, .int .i64 0, .int .i64 0, .int .u32 1, .int .u32 2, .int .i64 11, .slice a1 1 c1, .int .i64 310, .int .i64 0, .int .u32 1, .int .u32 2, .int .i64 23640, .slice a2 1 c2, .int .i64 (-1), .int .i64 0, .int .u32 1, .int .u32 2, .int .i64 23640, .slice (some ⟨V2.heap.size, 0, none⟩) 1 1, .int .i64 310, .int .i64 0, .int .u32 1, .int .u32 2, .int .i64 23640, .slice (some ⟨V3.heap.size, 0, none⟩) 1 1, .int .i64 310, .int .i64 0, .int .u32 1, .int .u32 2, .int .i64 23640, .slice a5 1 c5, .int .i64 310, .int .i64 0, .int .u32 1, .int .u32 2, .int .i64 23640, .slice a6 1 c6, .int .i64 310, .int .i64 0] 25 (0, 0))) := p1
  have N4_4 := Lib.hid p2
  have Z4 := Lib.hid (below_kept Z3.out p3 Z3.out.size (Nat.le_refl _))
  have z : (V3.alloc (.cells #[.int .u8 1, .int .u32 0, .int .i64 0, .int .i64 1, .int .i64 0] 37)).cell? ⟨y6.heap.size, 27, none⟩ = some (.slice a4 1 c4) := cell_of_row (stays_block (below_alloc V3 _) Q3.out)
  have hf : (V3.alloc (.cells #[.int .u8 1, .int .u32 0, .int .i64 0, .int .i64 1, .int .i64 0] 37)).frozen? ⟨y6.heap.size, 27, none⟩ = false := free_of_row (stays_block (below_alloc V3 _) Q3.out)
  have hs3 : y6.heap.size < V3.heap.size := lt_of_block Q3.out
  have N3_4 := Lib.hid ((p3.block _ (lt_of_block N3_3.out) (by omega)).trans N3_3.out)
  clear p1 p2 p3 N3_3
  go_upto_region 10 with fail
  clear z hf
  generalize (V3.setCell ⟨y6.heap.size, 27, none⟩ (.slice (some ⟨V3.heap.size, 0, none⟩) 1 1)).alloc (.cells #[.int .u8 1, .int .u32 0, .int .i64 0, .int .i64 1, .int .i64 0] 37) = V4 at *
  obtain ⟨p1, p2, p3⟩ := put_line (j := 33) (n := 1) (U := 37) #[.int .u8 2, .int .u32 0, .int .i64 0, .int .i64 0, .int .i64 1] Q4.out
  have Q5 : Hid (((V4.setCell ⟨y6.heap.size, 33, none⟩ (.slice (some ⟨V4.heap.size, 0, none⟩) 1 1)).alloc (.cells #[.int .u8 2, .int .u32 0, .int .i64 0, .int .i64 0, .int .i64 1] 37)).heap[y6.heap.size]? = some (.cells #[.int .u32 0, .int .u32 0, .int .i64 0, .slice none 0 0, .int .i64 0, .int .i64 0, .int .u32 1, .int .u32 2, .int .i64 11, .slice a1 1 c1, .int .i64 310, .int .i64 0, .int .u32 1, .int .u32 2, .int .i64 23640, .slice a2 1 c2, .int .i64 (-1), .int .i64 0, .int .u32 1, .int .u32 2, .int .i64 23640, .slice (some ⟨V2.heap.size, 0, none⟩) 1 1, .int .i64 310, .int .i64 0, .int .u32 1, .int .u32 2, .int .i64 23640, .slice (some ⟨V3.heap.size, 0, none⟩) 1 1, .int .i64 310, .int .i64 0, .int .u32 1, .int .u32 2, .int .i64 23640, .slice (some ⟨V4.heap.size, 0, none⟩) 1 1, .int .i64 310, .int .i64 0, .int .u32 1, .int .u32 2, .int .i64 23640, .slice a6 1 c6, .int .i64 310, .int .i64 0] 25 (0, 0))) := p1
  have N5_5 := Lib.hid p2
  have Z5 := Lib.hid (below_kept Z4.out p3 Z4.out.size (Nat.le_refl _))
  have z : (V4.alloc (.cells #[.int .u8 2, .int .u32 0, .int .i64 0, .int .i64 0, .int .i64 1] 37)).cell? ⟨y6.heap.size, 33, none⟩ = some (.slice a5 1 c5) := cell_of_row (stays_block (below_alloc V4 _) Q4.out)
  have hf : (V4.alloc (.cells #[.int .u8 2, .int .u32 0, .int .i64 0, .int .i64 0, .int .i64 1] 37)).frozen? ⟨y6.heap.size, 33, none⟩ = false := free_of_row (stays_block (below_alloc V4 _) Q4.out)
  have hs4 : y6.heap.size < V4.heap.size := lt_of_block Q4.out
  have N3_5 := Lib.hid ((p3.block _ (lt_of_block N3_4.out) (by omega)).trans N3_4.out)
  have N4_5 := Lib.hid ((p3.block _ (lt_of_block N4_4.out) (by omega)).trans N4_4.out)
  clear p1 p2 p3 N3_4 N4_4
  go_upto_region 11 with fail
  clear z hf
  generalize (V4.setCell ⟨y6.heap.size, 33, none⟩ (.slice (some ⟨V4.heap.size, 0, none⟩) 1 1)).alloc (.cells #[.int .u8 2, .int .u32 0, .int .i64 0, .int .i64 0, .int .i64 1] 37) = V5 at *
  obtain ⟨p1, p2, p3⟩ := put_line (j := 39) (n := 1) (U := 37) #[.int .u8 3, .int .u32 0, .int .i64 1, .int .i64 0, .int .i64 0] Q5.out
  have Q6 : Hid (((V5.setCell ⟨y6.heap.size, 39, none⟩ (.slice (some ⟨V5.heap.size, 0, none⟩) 1 1)).alloc (.cells #[.int .u8 3, .int .u32 0, .int .i64 1, .int .i64 0, .int .i64 0] 37)).heap[y6.heap.size]? = some (.cells #[.int .u32 0, .int .u32 0, .int .i64 0, .slice none 0 0, .int .i64 0, .int .i64 0, .int .u32 1, .int .u32 2, .int .i64 11, .slice a1 1 c1, .int .i64 310, .int .i64 0, .int .u32 1, .int .u32 2, .int .i64 23640, .slice a2 1 c2, .int .i64 (-1), .int .i64 0, .int .u32 1, .int .u32 2, .int .i64 23640, .slice (some ⟨V2.heap.size, 0, none⟩) 1 1, .int .i64 310, .int .i64 0, .int .u32 1, .int .u32 2, .int .i64 23640, .slice (some ⟨V3.heap.size, 0, none⟩) 1 1, .int .i64 310, .int .i64 0, .int .u32 1, .int .u32 2, .int .i64 23640, .slice (some ⟨V4.heap.size, 0, none⟩) 1 1, .int .i64 310, .int .i64 0, .int .u32 1, .int .u32 2, .int .i64 23640, .slice (some ⟨V5.heap.size, 0, none⟩) 1 1, .int .i64 310, .int .i64 0] 25 (0, 0))) := p1
  have N6_6 := Lib.hid p2
  have Z6 := Lib.hid (below_kept Z5.out p3 Z5.out.size (Nat.le_refl _))
  have z : (V5.alloc (.cells #[.int .u8 3, .int .u32 0, .int .i64 1, .int .i64 0, .int .i64 0] 37)).cell? ⟨y6.heap.size, 39, none⟩ = some (.slice a6 1 c6) := cell_of_row (stays_block (below_alloc V5 _) Q5.out)
  have hf : (V5.alloc (.cells #[.int .u8 3, .int .u32 0, .int .i64 1, .int .i64 0, .int .i64 0] 37)).frozen? ⟨y6.heap.size, 39, none⟩ = false := free_of_row (stays_block (below_alloc V5 _) Q5.out)
  have hs5 : y6.heap.size < V5.heap.size := lt_of_block Q5.out
  have N3_6 := Lib.hid ((p3.block _ (lt_of_block N3_5.out) (by omega)).trans N3_5.out)
  have N4_6 := Lib.hid ((p3.block _ (lt_of_block N4_5.out) (by omega)).trans N4_5.out)
  have N5_6 := Lib.hid ((p3.block _ (lt_of_block N5_5.out) (by omega)).trans N5_5.out)
  clear p1 p2 p3 N3_5 N4_5 N5_5
  go_upto_region 12 with fail
  clear z hf
  generalize (V5.setCell ⟨y6.heap.size, 39, none⟩ (.slice (some ⟨V5.heap.size, 0, none⟩) 1 1)).alloc (.cells #[.int .u8 3, .int .u32 0, .int .i64 1, .int .i64 0, .int .i64 0] 37) = V6 at *
  have BV := Lib.hid (onward Z6.out Y6.out)
  have KB : Hid (∀ k, k < 7 → ∃ (x : Ren.Inv) (lv : Value), mayB x = false ∧ x.ok ∧ RowsIn V6 lv 5 (x.ls.map Ren.Ln.cells) ∧ V6.cell? ⟨y6.heap.size, k * 6, none⟩ = some (.int .u32 x.no) ∧ V6.cell? ⟨y6.heap.size, k * 6 + 1, none⟩ = some (.int .u32 x.te) ∧ V6.cell? ⟨y6.heap.size, k * 6 + 2, none⟩ = some (.int .i64 x.mo) ∧ V6.cell? ⟨y6.heap.size, k * 6 + 3, none⟩ = some lv ∧ V6.cell? ⟨y6.heap.size, k * 6 + 4, none⟩ = some (.int .i64 x.tot) ∧ V6.cell? ⟨y6.heap.size, k * 6 + 5, none⟩ = some (.int .i64 x.cr)) := fun k hk => by
    have hq : k = 0 ∨ k = 1 ∨ k = 2 ∨ k = 3 ∨ k = 4 ∨ k = 5 ∨ k = 6 := by omega
    rcases hq with rfl | rfl | rfl | rfl | rfl | rfl | rfl
    · exact ⟨bad0, _, may_bad0, ok_bad0, rows_nil _, cell_of_row Q6.out, cell_of_row Q6.out, cell_of_row Q6.out, cell_of_row Q6.out, cell_of_row Q6.out, cell_of_row Q6.out⟩
    · exact ⟨bad1, _, may_bad1, ok_bad1, R1_6.out.below Z6.out, cell_of_row Q6.out, cell_of_row Q6.out, cell_of_row Q6.out, cell_of_row Q6.out, cell_of_row Q6.out, cell_of_row Q6.out⟩
    · exact ⟨bad2, _, may_bad2, ok_bad2, R2_6.out.below Z6.out, cell_of_row Q6.out, cell_of_row Q6.out, cell_of_row Q6.out, cell_of_row Q6.out, cell_of_row Q6.out, cell_of_row Q6.out⟩
    · exact ⟨bad3, _, may_bad3, ok_bad3, rows_block bad3.ls N3_6.out rfl (by unfold maxLen bad3; simp), cell_of_row Q6.out, cell_of_row Q6.out, cell_of_row Q6.out, cell_of_row Q6.out, cell_of_row Q6.out, cell_of_row Q6.out⟩
    · exact ⟨bad4, _, may_bad4, ok_bad4, rows_block bad4.ls N4_6.out rfl (by unfold maxLen bad4; simp), cell_of_row Q6.out, cell_of_row Q6.out, cell_of_row Q6.out, cell_of_row Q6.out, cell_of_row Q6.out, cell_of_row Q6.out⟩
    · exact ⟨bad5, _, may_bad5, ok_bad5, rows_block bad5.ls N5_6.out rfl (by unfold maxLen bad5; simp), cell_of_row Q6.out, cell_of_row Q6.out, cell_of_row Q6.out, cell_of_row Q6.out, cell_of_row Q6.out, cell_of_row Q6.out⟩
    · exact ⟨bad6, _, may_bad6, ok_bad6, rows_block bad6.ls N6_6.out rfl (by unfold maxLen bad6; simp), cell_of_row Q6.out, cell_of_row Q6.out, cell_of_row Q6.out, cell_of_row Q6.out, cell_of_row Q6.out, cell_of_row Q6.out⟩
  clear Q0 Z0 Q1 Z1 Q2 Z2 Q3 Z3 Q4 Z4 Q5 Z5 Q6 Z6 R1_6 R2_6 R3_6 R4_6 R5_6 R6_6 N3_6 N4_6 N5_6 N6_6
  go_wp2_with fail
  go_loopw [5] (fun iv wr => ∃ k : Nat, k ≤ 7 ∧ iv = .int .i64 k ∧ Hid (Below V6.heap.size V6 wr)) (fun iv _ => 7 - (intOf iv).toNat)
  case atStart => exact ⟨0, by omega, rfl, Below.refl _ _⟩
  case round =>
    obtain ⟨k, hk, rfl, BR⟩ := hrel
    by_cases hlt : k < 7
    · obtain ⟨x, lv, hm, hok, hl, q0, q1, q2, q3, q4, q5⟩ := KB.out k hlt
      replace q0 := stays BR.out q0
      replace q1 := stays BR.out q1
      replace q2 := stays BR.out q2
      replace q3 := stays BR.out q3
      replace q4 := stays BR.out q4
      replace q5 := stays BR.out q5
      have TX := Lib.hid (rtext_any x lv wr (HE.out.below (onward BR.out BV.out)).env (hl.below BR.out) hok)
      rw [show textL x = [] from by unfold textL; rw [hm]; rfl, if_neg (by rw [hm]; decide)] at TX
      clear hm hok hl
      obtain ⟨no, te, mo, ls, tot, cr⟩ := x
      dsimp only at q0 q1 q2 q4 q5
      go_wp2_with fail
      refine TX.out.mono ?_
      rintro e y ⟨rfl, hb⟩
      have BQ := Lib.hid (onward hb BR.out)
      clear hb TX q0 q1 q2 q3 q4 q5
      go_wp2_with fail
      go_roundw
      case rel => exact ⟨k + 1, by omega, by go_num, BQ.out⟩
      case measure => simp [intOf]; omega
    · have dk : decide ((k : Int) < 7) = false := decide_eq_false (by omega)
      clear hlt KB
      have BW := Lib.hid (onward BR.out BV.out)
      clear BR BV
      have Q := Lib.hid (heap_alloc_new wr (.cells #[.string ⟨#[]⟩, .string ⟨#[105, 110, 118, 111, 105, 99, 101, 32, 49, 10]⟩, .string ⟨#[105, 110, 118, 111, 105, 99, 101, 32, 48, 49, 10, 116, 101, 110, 97, 110, 116, 32, 50, 10, 109, 111, 110, 116, 104, 32, 49, 57, 55, 48, 45, 48, 49, 10, 116, 111, 116, 97, 108, 32, 48, 10]⟩, .string ⟨#[105, 110, 118, 111, 105, 99, 101, 32, 49, 10, 116, 101, 110, 97, 110, 116, 32, 50, 10, 109, 111, 110, 116, 104, 32, 49, 57, 55, 48, 45, 49, 51, 10, 116, 111, 116, 97, 108, 32, 48, 10]⟩, .string ⟨#[105, 110, 118, 111, 105, 99, 101, 32, 49, 10, 116, 101, 110, 97, 110, 116, 32, 50, 10, 109, 111, 110, 116, 104, 32, 49, 57, 55, 48, 45, 48, 49, 10, 116, 111, 116, 97, 108, 32, 48, 10, 99, 114, 101, 100, 105, 116, 101, 100, 32, 48, 10]⟩, .string ⟨#[105, 110, 118, 111, 105, 99, 101, 32, 52, 50, 57, 52, 57, 54, 55, 50, 57, 55, 10, 116, 101, 110, 97, 110, 116, 32, 50, 10, 109, 111, 110, 116, 104, 32, 49, 57, 55, 48, 45, 48, 49, 10, 116, 111, 116, 97, 108, 32, 48, 10]⟩, .string ⟨#[105, 110, 118, 111, 105, 99, 101, 32, 49, 10, 116, 101, 110, 97, 110, 116, 32, 50, 10, 109, 111, 110, 116, 104, 32, 49, 57, 55, 48, 45, 48, 49, 10, 116, 111, 116, 97, 108, 10]⟩, .string ⟨#[105, 110, 118, 111, 105, 99, 101, 32, 49, 10, 116, 101, 110, 97, 110, 116, 32, 50, 10, 109, 111, 110, 116, 104, 32, 49, 57, 55, 48, 45, 48, 49, 10, 98, 97, 115, 101, 32, 112, 108, 97, 110, 10, 116, 111, 116, 97, 108, 32, 48, 10]⟩] 9))
      have BX := Lib.hid (onward (below_alloc wr (.cells #[.string ⟨#[]⟩, .string ⟨#[105, 110, 118, 111, 105, 99, 101, 32, 49, 10]⟩, .string ⟨#[105, 110, 118, 111, 105, 99, 101, 32, 48, 49, 10, 116, 101, 110, 97, 110, 116, 32, 50, 10, 109, 111, 110, 116, 104, 32, 49, 57, 55, 48, 45, 48, 49, 10, 116, 111, 116, 97, 108, 32, 48, 10]⟩, .string ⟨#[105, 110, 118, 111, 105, 99, 101, 32, 49, 10, 116, 101, 110, 97, 110, 116, 32, 50, 10, 109, 111, 110, 116, 104, 32, 49, 57, 55, 48, 45, 49, 51, 10, 116, 111, 116, 97, 108, 32, 48, 10]⟩, .string ⟨#[105, 110, 118, 111, 105, 99, 101, 32, 49, 10, 116, 101, 110, 97, 110, 116, 32, 50, 10, 109, 111, 110, 116, 104, 32, 49, 57, 55, 48, 45, 48, 49, 10, 116, 111, 116, 97, 108, 32, 48, 10, 99, 114, 101, 100, 105, 116, 101, 100, 32, 48, 10]⟩, .string ⟨#[105, 110, 118, 111, 105, 99, 101, 32, 52, 50, 57, 52, 57, 54, 55, 50, 57, 55, 10, 116, 101, 110, 97, 110, 116, 32, 50, 10, 109, 111, 110, 116, 104, 32, 49, 57, 55, 48, 45, 48, 49, 10, 116, 111, 116, 97, 108, 32, 48, 10]⟩, .string ⟨#[105, 110, 118, 111, 105, 99, 101, 32, 49, 10, 116, 101, 110, 97, 110, 116, 32, 50, 10, 109, 111, 110, 116, 104, 32, 49, 57, 55, 48, 45, 48, 49, 10, 116, 111, 116, 97, 108, 10]⟩, .string ⟨#[105, 110, 118, 111, 105, 99, 101, 32, 49, 10, 116, 101, 110, 97, 110, 116, 32, 50, 10, 109, 111, 110, 116, 104, 32, 49, 57, 55, 48, 45, 48, 49, 10, 98, 97, 115, 101, 32, 112, 108, 97, 110, 10, 116, 111, 116, 97, 108, 32, 48, 10]⟩] 9)) BW.out)
      go_upto_region 19 with fail
      clear dk hk
      generalize wr.alloc (.cells #[.string ⟨#[]⟩, .string ⟨#[105, 110, 118, 111, 105, 99, 101, 32, 49, 10]⟩, .string ⟨#[105, 110, 118, 111, 105, 99, 101, 32, 48, 49, 10, 116, 101, 110, 97, 110, 116, 32, 50, 10, 109, 111, 110, 116, 104, 32, 49, 57, 55, 48, 45, 48, 49, 10, 116, 111, 116, 97, 108, 32, 48, 10]⟩, .string ⟨#[105, 110, 118, 111, 105, 99, 101, 32, 49, 10, 116, 101, 110, 97, 110, 116, 32, 50, 10, 109, 111, 110, 116, 104, 32, 49, 57, 55, 48, 45, 49, 51, 10, 116, 111, 116, 97, 108, 32, 48, 10]⟩, .string ⟨#[105, 110, 118, 111, 105, 99, 101, 32, 49, 10, 116, 101, 110, 97, 110, 116, 32, 50, 10, 109, 111, 110, 116, 104, 32, 49, 57, 55, 48, 45, 48, 49, 10, 116, 111, 116, 97, 108, 32, 48, 10, 99, 114, 101, 100, 105, 116, 101, 100, 32, 48, 10]⟩, .string ⟨#[105, 110, 118, 111, 105, 99, 101, 32, 52, 50, 57, 52, 57, 54, 55, 50, 57, 55, 10, 116, 101, 110, 97, 110, 116, 32, 50, 10, 109, 111, 110, 116, 104, 32, 49, 57, 55, 48, 45, 48, 49, 10, 116, 111, 116, 97, 108, 32, 48, 10]⟩, .string ⟨#[105, 110, 118, 111, 105, 99, 101, 32, 49, 10, 116, 101, 110, 97, 110, 116, 32, 50, 10, 109, 111, 110, 116, 104, 32, 49, 57, 55, 48, 45, 48, 49, 10, 116, 111, 116, 97, 108, 10]⟩, .string ⟨#[105, 110, 118, 111, 105, 99, 101, 32, 49, 10, 116, 101, 110, 97, 110, 116, 32, 50, 10, 109, 111, 110, 116, 104, 32, 49, 57, 55, 48, 45, 48, 49, 10, 98, 97, 115, 101, 32, 112, 108, 97, 110, 10, 116, 111, 116, 97, 108, 32, 48, 10]⟩] 9) = X at *
      have KC : Hid (∀ k, k < 8 → ∃ s : ByteArray, parseR s.data.toList = none ∧ s.size ≤ 1000000 ∧ X.cell? ⟨wr.heap.size, k, none⟩ = some (.string s)) := fun k hk => by
        have hq : k = 0 ∨ k = 1 ∨ k = 2 ∨ k = 3 ∨ k = 4 ∨ k = 5 ∨ k = 6 ∨ k = 7 := by omega
        rcases hq with rfl | rfl | rfl | rfl | rfl | rfl | rfl | rfl
        · exact ⟨_, none0, by decide +kernel, cell_of_row Q.out⟩
        · exact ⟨_, none1, by decide +kernel, cell_of_row Q.out⟩
        · exact ⟨_, none2, by decide +kernel, cell_of_row Q.out⟩
        · exact ⟨_, none3, by decide +kernel, cell_of_row Q.out⟩
        · exact ⟨_, none4, by decide +kernel, cell_of_row Q.out⟩
        · exact ⟨_, none5, by decide +kernel, cell_of_row Q.out⟩
        · exact ⟨_, none6, by decide +kernel, cell_of_row Q.out⟩
        · exact ⟨_, none7, by decide +kernel, cell_of_row Q.out⟩
      clear Q
      go_wp2_with fail
      go_loopw [9] (fun iv wz => ∃ k : Nat, k ≤ 8 ∧ iv = .int .i64 k ∧ Hid (Below X.heap.size X wz)) (fun iv _ => 8 - (intOf iv).toNat)
      case atStart => exact ⟨0, by omega, rfl, Below.refl _ _⟩
      case round =>
        obtain ⟨k, hk, rfl, BR⟩ := hrel
        by_cases hlt : k < 8
        · obtain ⟨s, hn, hs, q⟩ := KC.out k hlt
          replace q := stays BR.out q
          have PX := Lib.hid (parse_no _ (HE.out.below (onward BR.out BX.out)) hs hn)
          clear hn hs
          go_wp2_with fail
          refine PX.out.mono ?_
          rintro e y ⟨rfl, hb⟩
          have BQ := Lib.hid (onward (below_alloc y (.cells zeroI 25)) (onward hb BR.out))
          clear hb PX q
          go_wp2_with fail
          go_roundw
          case rel => exact ⟨k + 1, by omega, by go_num, BQ.out⟩
          case measure => simp [intOf]; omega
        · have dk : decide ((k : Int) < 8) = false := decide_eq_false (by omega)
          clear hlt hk KC
          have BZ := Lib.hid (onward BR.out BX.out)
          go_wp2_with fail
          refine (GO.out _ BZ.out).mono ?_
          rintro e y ⟨rfl, hb⟩
          have B9 := Lib.hid hb
          clear hb
          go_wp2
          go_ret
          exact ⟨rfl, B9.out⟩
end Go.Proofs.YtmppkhjjlgngkaaDoor
