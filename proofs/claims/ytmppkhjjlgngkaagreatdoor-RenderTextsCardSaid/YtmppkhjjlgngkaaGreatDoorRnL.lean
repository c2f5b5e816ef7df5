/- The walks of the law's one and goes. -/
import Derived.Test.YtmppkhjjlgngkaaGreatDoorRnK
namespace Go.Proofs.YtmppkhjjlgngkaaGreatDoor
open Go.RowKit Civ Ren Go.Shelf
set_option linter.unusedVariables false
set_option linter.unusedSimpArgs false
abbrev oneL : List UInt8 := [105, 110, 118, 111, 105, 99, 101, 32, 49, 10, 116, 101, 110, 97, 110, 116, 32, 50, 10, 109, 111, 110, 116, 104, 32, 49, 57, 55, 48, 45, 48, 49, 10, 98, 97, 115, 101, 32, 112, 108, 97, 110, 32, 51, 32, 100, 97, 121, 115, 32, 51, 49, 32, 97, 109, 111, 117, 110, 116, 32, 51, 49, 48, 10, 116, 111, 116, 97, 108, 32, 51, 49, 48, 10]
theorem text_one : textL oneV = oneL := by decide +kernel
theorem may_one : mayB oneV = true := by decide +kernel
theorem ok_one : oneV.ok := by
  refine ⟨?_, ?_, ?_, ?_, ?_, fun l hl => ?_⟩
  · unfold oneV u32; decide
  · unfold oneV u32; decide
  · unfold oneV Acct.inInt; decide
  · unfold oneV Acct.inInt; decide
  · unfold oneV Acct.inInt; decide
  · simp [oneV] at hl
    subst hl
    unfold Ren.Ln.ok u32 Acct.inInt
    decide
theorem parseR_back (v : Ren.Inv) (hok : v.ok) (hm : mayB v = true) : parseR (bodyL v) = some v := by
  refine parseR_same (parse_back v hok hm) ?_
  unfold textL
  rw [if_pos hm]
theorem text_may {v : Ren.Inv} (hm : mayB v = true) : textL v = bodyL v := by unfold textL; rw [if_pos hm]
theorem parse_one : parseR oneL = some oneV := by
  rw [← text_one, text_may may_one]
  exact parseR_back oneV ok_one may_one
theorem six_block {w : World} {p0 : Nat} {x0 x1 x2 x3 x4 x5 : Value} (h0 : w.heap[p0]? = some (.cells #[x0, x1, x2, x3, x4, x5] 25 (0, 0))) (u0 u1 u2 u3 u4 u5 : Value) :
    ((((((w.setCell ⟨p0, 0, none⟩ u0).setCell ⟨p0, 1, none⟩ u1).setCell ⟨p0, 2, none⟩ u2).setCell ⟨p0, 3, none⟩ u3).setCell ⟨p0, 4, none⟩ u4).setCell ⟨p0, 5, none⟩ u5).heap[p0]? = some (.cells #[u0, u1, u2, u3, u4, u5] 25 (0, 0)) :=
    set_block (set_block (set_block (set_block (set_block (set_block h0)))))
theorem one_end {w W6 : World} {u : Value} (R : Ending → World → Prop) (tmps : Array Value) (t0 : tmps[0]? = some (.pointer (some ⟨w.heap.size, 0, none⟩))) (h : W6.heap[w.heap.size]? = some (.cells #[.int .u32 1, .int .u32 2, .int .i64 23640, u, .int .i64 310, .int .i64 0] 25 (0, 0))) (hR : R (.returned (oneV.val u)) W6) :
    bodyPost Tryz.prog Tryz.f13 R Exit.ret { tmps := tmps, defers := [] } W6 := by
  obtain ⟨-, c0, c1, c2, c3, c4, c5⟩ := cells6 h
  exact bodyPost_ret (v := oneV.val u) (by simp [results, Tryz.results13, go_sem, t0, c0, c1, c2, c3, c4, c5, oneV, Ren.Inv.val]) rfl hR
theorem one_rows {w W6 W : World} {b : Nat} (hb : W6.heap[b]? = some (.cells #[.int .u8 1, .int .u32 3, .int .i64 31, .int .i64 0, .int .i64 310] 39 (0, 0))) : RowsIn W6 (.slice (some ⟨b, 0, none⟩) 1 1) 5 (oneV.ls.map Ren.Ln.cells) := by
  refine ⟨_, 1, rfl, Nat.le_refl _, by unfold maxLen; omega, fun i hi => ⟨b, 0, rfl, lt_of_block hb, fun j hj => ?_⟩⟩
  obtain rfl : i = 0 := by simpa [oneV] using hi
  rw [cell_of_row hb]
  have hj5 : j = 0 ∨ j = 1 ∨ j = 2 ∨ j = 3 ∨ j = 4 := by omega
  rcases hj5 with rfl | rfl | rfl | rfl | rfl <;> rfl
set_option maxHeartbeats 2000000 in
theorem one_any (w : World) : Calls Tryz.prog 13 #[] w fun e w' => ∃ lv, e = .returned (oneV.val lv) ∧ RowsIn w' lv 5 (oneV.ls.map Ren.Ln.cells) ∧ Below w.heap.size w w' := by
  obtain ⟨b2, h1, h2, h3⟩ := two_blocks w #[.int .u32 1, .int .u32 2, .int .i64 23640, .slice (some ⟨w.heap.size + 1, 0, none⟩) 1 1, .int .i64 310, .int .i64 0] #[.int .u8 1, .int .u32 3, .int .i64 31, .int .i64 0, .int .i64 310] 25 39
  have P6 := Lib.hid h1
  have H2 := Lib.hid h2
  have B2 := Lib.hid b2
  clear b2 h1 h2 h3
  go_enter Tryz.func13, Tryz.ntmps13
  go_wp2_with fail
  refine one_end (w := w) _ _ rfl P6.out ?_
  exact ⟨_, rfl, one_rows (w := w) (W := w) H2.out, B2.out⟩
end Go.Proofs.YtmppkhjjlgngkaaGreatDoor
