/- The walk of the law's example (goes). -/
import Derived.Test.YtgkefciojoffgaaNeM
import Derived.Lib.SlBytesConst
import Derived.Lib.SmallJoins
namespace Go.Proofs.Ytgkefciojoffgaa
open Go.RowKit
set_option linter.unusedVariables false
set_option linter.unusedSimpArgs false
attribute [local go_sem ↓] Go.wp_at_zero Go.wp_at_succ
/-- string(b) -/
theorem conv_bytes {B : Nat} {w : World} {v : Value} {bs : List UInt8} (h : BytesAt B w v bs) : (convert 28 9 v).run Try.prog w = .ok (.string ⟨bs.toArray⟩) w := by
  have h0 := h
  obtain ⟨a, c, rfl, hn, hx⟩ := h
  cases a with
  | none =>
    obtain rfl : bs = [] := by
      cases bs with
      | nil => rfl
      | cons x r => obtain ⟨b, o, h3, _⟩ := hx 0 (by simp); cases h3
    exact run_convert_bytes_nil w 28 5 Try.underlying28 Try.underlying5 _ _ 9 Try.underlying9
  | some ad =>
    exact run_convert_bytes_back w 28 9 5 ad c bs Try.underlying28 Try.underlying5 Try.underlying9 fun j hj => bytes_src h0 j _ (by simp [bytesV, hj])
/-- bytes in a block of their own -/
theorem bytes_block {B : Nat} {w : World} {g : Nat} {bs : List UInt8} {fr : Nat × Nat} (h : w.heap[g]? = some (.cells (bytesV bs).toArray 5 fr)) : BytesAt B w (.slice (some ⟨g, 0, none⟩) bs.length bs.length) bs :=
  ⟨_, _, rfl, fun e => (by cases e), fun i hi => ⟨g, 0, rfl, by simp [World.cell?, h, bytesV, hi, getD_at _ _ _ hi], .inr ⟨_, _, h⟩⟩⟩
theorem alloc_block (w : World) (C : Array Value) (T : Nat) (fr : Nat × Nat) : (w.alloc (.cells C T fr)).heap[w.heap.size]? = some (.cells C T fr) := by
  show (w.heap.push (.cells C T fr))[w.heap.size]? = _
  simp
/-- an alloc'd letter -/
theorem letter_block {w W : World} {v0 v1 v2 : Value} (h : Below (w.alloc (.cells #[v0, v1, v2] 30)).heap.size (w.alloc (.cells #[v0, v1, v2] 30)) W) : W.heap[w.heap.size]? = some (.cells #[v0, v1, v2] 30 (0, 0)) := stays_block h (heap_alloc_new w _)
set_option maxHeartbeats 4000000 in
set_option maxRecDepth 1000000 in
theorem goes_any (w : World) : Calls Try.prog 13 #[] w fun e w' => e = .returned (.bool true) ∧ Below w.heap.size w w' := by
  go_enter Try.func13, Try.ntmps13
  go_wp2_with fail
  refine (new_s w.heap.size 2 w (by decide) (by decide) (Nat.le_refl _) [] (fun k hk => by cases hk)).mono ?_
  rintro e w1 ⟨rfl, hS, hb⟩
  have S1 := Lib.hid hS
  have B1 := Lib.hid hb
  clear hS hb
  have CS := fun (w : World) (C : Array Value) (n c : Nat) => Lib.run_convert_bytes_const (P := Try.prog) w 28 5 C n c Try.underlying28 Try.underlying5
  go_wp2_with fail
  have hb0 := bytes_block (B := w.heap.size) (bs := [120]) (alloc_block w1 #[.int .u8 120] 5 (1, 2))
  have SA := S1.out.below (below_alloc w1 (.cells #[.int .u8 120] 5 (1, 2)))
  have BA := Lib.hid (onward (below_alloc w1 (.cells #[.int .u8 120] 5 (1, 2))) B1.out)
  refine (send_s w.heap.size w.heap.size [] 2 [] false false false 1 0 _ [120] _ SA hb0 (by unfold i64; omega) (by unfold i64; omega) (by decide)).mono ?_
  rw [show sendJ 2 [] (1, 0, [120]) = 0 by decide +kernel, show sendR 2 [] (1, 0, [120]) = [(1, 0, [120])] by decide +kernel]
  rintro e w2 ⟨rfl, hS, hO, -⟩
  have S2 := Lib.hid hS
  have B2 := Lib.hid (BA.out.trans hO)
  clear hS hO hb0 SA
  go_wp2_with fail
  refine (send_s w.heap.size w.heap.size [] 2 _ false false false 1 2 _ [] _ S2.out (bytes_nil _ _) (by unfold i64; omega) (by unfold i64; omega) (by decide)).mono ?_
  rw [show sendJ 2 [(1, 0, [120])] (1, 2, []) = 1 by decide +kernel, show sendR 2 [(1, 0, [120])] (1, 2, []) = [(1, 0, [120])] by decide +kernel]
  rintro e w3 ⟨rfl, hS, hO, -⟩
  have S3 := Lib.hid hS
  have B3 := Lib.hid (B2.out.trans hO)
  clear hS hO
  go_wp2_with fail
  refine (cut_s w.heap.size w.heap.size [] 2 _ false false false 1 true _ S3.out).mono ?_
  rw [show cutI 2 1 = 0 by decide +kernel, show cutC 2 1 true false 1 = true by decide +kernel, show cutC 2 1 true false 2 = false by decide +kernel, show cutC 2 1 true false 3 = false by decide +kernel]
  rintro e w4 ⟨rfl, hS, hO, -⟩
  have S4 := Lib.hid hS
  have B4 := Lib.hid (B3.out.trans hO)
  clear hS hO
  go_wp2_with fail
  refine (take_s w.heap.size w.heap.size [] 2 _ true false false 0 _ S4.out).mono ?_
  rw [show takeI [(1, 0, [120])] true false false 0 = 50 by decide +kernel, show takeL [(1, 0, [120])] true false false 0 = (0, 0, []) by decide +kernel, show takeR [(1, 0, [120])] true false false 0 = [(1, 0, [120])] by decide +kernel]
  rintro e w5 ⟨x, rfl, ⟨bv, rfl, hx⟩, hS, hO, -⟩
  obtain ⟨a5, c5, rfl⟩ := hx.form
  have S5 := Lib.hid hS
  have B5 := Lib.hid (B4.out.trans hO)
  clear hS hO hx
  go_wp2_with fail
  have S5' := Lib.hid (S5.out.more (below_alloc w5 (.cells #[.int .i64 0, .int .i64 0, .slice a5 0 c5] 30)) [] (fun k hk => by cases hk))
  have B5' := Lib.hid (onward (below_alloc w5 (.cells #[.int .i64 0, .int .i64 0, .slice a5 0 c5] 30)) B5.out)
  refine (cut_s w.heap.size w.heap.size [] 2 _ true false false 1 false _ S5'.out).mono ?_
  rw [show cutI 2 1 = 0 by decide +kernel, show cutC 2 1 false true 1 = false by decide +kernel, show cutC 2 1 false false 2 = false by decide +kernel, show cutC 2 1 false false 3 = false by decide +kernel]
  rintro e w6 ⟨rfl, hS, hO, -⟩
  have S6 := Lib.hid hS
  have B6 := Lib.hid (B5'.out.trans hO)
  clear hS hO
  go_wp2_with fail
  refine (double_s w.heap.size w.heap.size [] 2 _ false false false 0 _ S6.out).mono ?_
  rw [show doubleI 2 [(1, 0, [120])] 0 = 0 by decide +kernel, show doubleR 2 [(1, 0, [120])] 0 = [(1, 0, [120]), (1, 0, [120])] by decide +kernel]
  rintro e w7 ⟨rfl, hS, hO, -⟩
  have S7 := Lib.hid hS
  have B7 := Lib.hid (B6.out.trans hO)
  clear hS hO
  go_wp2_with fail
  refine (take_s w.heap.size w.heap.size [] 2 _ false false false 0 _ S7.out).mono ?_
  rw [show takeI [(1, 0, [120]), (1, 0, [120])] false false false 0 = 0 by decide +kernel, show takeL [(1, 0, [120]), (1, 0, [120])] false false false 0 = (1, 0, [120]) by decide +kernel, show takeR [(1, 0, [120]), (1, 0, [120])] false false false 0 = [(1, 0, [120])] by decide +kernel]
  rintro e w8 ⟨x, rfl, ⟨bv, rfl, hx⟩, hS, hO, -⟩
  obtain ⟨a8, c8, rfl⟩ := hx.form
  have X8 := Lib.hid hx
  have S8 := Lib.hid (hS.more (below_alloc w8 (.cells #[.int .i64 1, .int .i64 0, .slice a8 1 c8] 30)) [w8.heap.size] (fun k hk => by simp at hk; subst hk; simp))
  have G8 := Lib.hid (heap_alloc_new w8 (.cells #[.int .i64 1, .int .i64 0, .slice a8 1 c8] 30))
  have B8 := Lib.hid (onward (below_alloc w8 (.cells #[.int .i64 1, .int .i64 0, .slice a8 1 c8] 30)) (B7.out.trans hO))
  clear hS hO hx
  go_wp2_with fail
  refine (take_s w.heap.size w.heap.size [w8.heap.size] 2 _ false false false 0 _ S8.out).mono ?_
  rw [show takeI [(1, 0, [120])] false false false 0 = 0 by decide +kernel, show takeL [(1, 0, [120])] false false false 0 = (1, 0, [120]) by decide +kernel, show takeR [(1, 0, [120])] false false false 0 = [] by decide +kernel]
  rintro e w9 ⟨x, rfl, ⟨bv, rfl, hx⟩, hS, hO, hst, -, hk⟩
  obtain ⟨a9, c9, rfl⟩ := hx.form
  have X8' := Lib.hid ((X8.out.below (below_alloc w8 (.cells #[.int .i64 1, .int .i64 0, .slice a8 1 c8] 30))).step hst)
  have G8' := Lib.hid ((hk w8.heap.size (by simp)).trans G8.out)
  have X9 := Lib.hid hx
  have S9 := Lib.hid (hS.more (below_alloc w9 (.cells #[.int .i64 1, .int .i64 0, .slice a9 1 c9] 30)) [w9.heap.size] (fun k hk => by simp at hk; subst hk; simp))
  have G9 := Lib.hid (heap_alloc_new w9 (.cells #[.int .i64 1, .int .i64 0, .slice a9 1 c9] 30))
  have B9 := Lib.hid (onward (below_alloc w9 (.cells #[.int .i64 1, .int .i64 0, .slice a9 1 c9] 30)) (B8.out.trans hO))
  have hst9 : Stp w.heap.size w9 (w9.alloc (.cells #[.int .i64 1, .int .i64 0, .slice a9 1 c9] 30)) := .of_below (below_alloc _ _)
  have X8n := Lib.hid (X8'.out.step hst9)
  have G8n := Lib.hid (stays_block (below_alloc w9 (.cells #[.int .i64 1, .int .i64 0, .slice a9 1 c9] 30)) G8'.out)
  have X9n := Lib.hid (X9.out.step hst9)
  clear hS hO hx hst hk X8 X8' G8 G8' X9 hst9
  go_wp2_with fail
  refine (take_s w.heap.size w.heap.size [w9.heap.size, w8.heap.size] 2 _ false false false 0 _ S9.out).mono ?_
  rw [show takeI [] false false false 0 = 1 by decide +kernel, show takeL [] false false false 0 = (0, 0, []) by decide +kernel, show takeR [] false false false 0 = [] by decide +kernel]
  rintro e wa ⟨x, rfl, ⟨bv, rfl, hx⟩, hS, hO, hst, -, hk⟩
  obtain ⟨aa, ca, rfl⟩ := hx.form
  have bA := below_alloc wa (.cells #[.int .i64 0, .int .i64 0, .slice aa 0 ca] 30)
  have q8 : (convert 28 9 (.slice a8 1 c8)).run Try.prog _ = .ok (.string ⟨#[120]⟩) _ := conv_bytes ((X8n.out.step hst).below bA)
  have q9 : (convert 28 9 (.slice a9 1 c9)).run Try.prog _ = .ok (.string ⟨#[120]⟩) _ := conv_bytes ((X9n.out.step hst).below bA)
  have g8 := three_cells (stays_block bA ((hk w8.heap.size (by simp)).trans G8n.out))
  have g9 := three_cells (stays_block bA ((hk w9.heap.size (by simp)).trans G9.out))
  obtain ⟨-, -, -, k8⟩ := g8
  obtain ⟨-, -, -, k9⟩ := g9
  have BZ := Lib.hid (onward bA (B9.out.trans hO))
  clear hS hO hx hst hk X8n X9n G8n G9 bA
  go_wp2_with fail
  go_ret
  exact ⟨rfl, BZ.out⟩
end Go.Proofs.Ytgkefciojoffgaa
