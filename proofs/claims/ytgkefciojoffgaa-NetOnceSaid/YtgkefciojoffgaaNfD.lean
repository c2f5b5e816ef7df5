/- The walk of the law's name: a letter as a text. -/
import Derived.Test.YtgkefciojoffgaaNfC
namespace Go.Proofs.Ytgkefciojoffgaa
open Go.RowKit
set_option linter.unusedVariables false
set_option linter.unusedSimpArgs false
attribute [local go_sem ↓] Go.wp_at_zero Go.wp_at_succ
/-- A number's last byte. -/
def byteOf (f : Int) : UInt8 := UInt8.ofNat (f % 256).toNat
theorem byteOf_val (f : Int) : ((byteOf f).toNat : Int) = f % 256 := by
  unfold byteOf
  have h0 : 0 ≤ f % 256 := Int.emod_nonneg _ (by decide)
  have h1 : f % 256 < 256 := Int.emod_lt_of_pos _ (by decide)
  rw [UInt8.toNat_ofNat']
  omega
theorem two_bytes (f t : Int) : (#[.int .u8 (f % 256), .int .u8 (t % 256)] : Array Value) = (bytesV [byteOf f, byteOf t]).toArray := by
  simp only [bytesV, List.map_cons, List.map_nil, byteOf_val]
/-- The name of a letter, as the law spells it. -/
def nameOf (l : Nat × Nat × List UInt8) : List UInt8 := byteOf l.1 :: byteOf l.2.1 :: l.2.2
set_option maxHeartbeats 1000000 in
theorem name_any (B : Nat) (f t : Int) (bv : Value) (bs : List UInt8) (w : World) (hB : BytesAt B w bv bs) (hf : i64 f) (ht : i64 t) (hl : bs.length < 1000000) :
    Calls Try.prog 23 #[.agg #[.int .i64 f, .int .i64 t, bv]] w fun e w' => e = .returned (.string ⟨(byteOf f :: byteOf t :: bs).toArray⟩) ∧ Below w.heap.size w w' := by
  obtain ⟨a, c, rfl⟩ := hB.form
  have CV1 : ∀ fr fr', (convert 28 9 (.slice (some ⟨w.heap.size + 1, 0, none⟩) 2 2)).run Try.prog ((w.alloc (.cells #[.int .i64 f, .int .i64 t, .slice a bs.length c] 30 fr)).alloc (.cells #[.int .u8 (f % 256), .int .u8 (t % 256)] 5 fr')) = .ok (.string ⟨[byteOf f, byteOf t].toArray⟩) ((w.alloc (.cells #[.int .i64 f, .int .i64 t, .slice a bs.length c] 30 fr)).alloc (.cells #[.int .u8 (f % 256), .int .u8 (t % 256)] 5 fr')) := by
    intro fr fr'
    have h := alloc_block (w.alloc (.cells #[.int .i64 f, .int .i64 t, .slice a bs.length c] 30 fr)) #[.int .u8 (f % 256), .int .u8 (t % 256)] 5 fr'
    rw [show (w.alloc (.cells #[.int .i64 f, .int .i64 t, .slice a bs.length c] 30 fr)).heap.size = w.heap.size + 1 from Array.size_push _] at h
    rw [two_bytes] at h ⊢
    exact conv_bytes (bytes_block (B := 0) h)
  have CV2 : ∀ fr fr', (convert 28 9 (.slice a bs.length c)).run Try.prog ((w.alloc (.cells #[.int .i64 f, .int .i64 t, .slice a bs.length c] 30 fr)).alloc (.cells #[.int .u8 (f % 256), .int .u8 (t % 256)] 5 fr')) = .ok (.string ⟨bs.toArray⟩) ((w.alloc (.cells #[.int .i64 f, .int .i64 t, .slice a bs.length c] 30 fr)).alloc (.cells #[.int .u8 (f % 256), .int .u8 (t % 256)] 5 fr')) := by
    intro fr fr'
    exact conv_bytes ((hB.below (below_alloc w _)).below (below_alloc _ _))
  have B0 : ∀ fr fr', Hid (Below w.heap.size w ((w.alloc (.cells #[.int .i64 f, .int .i64 t, .slice a bs.length c] 30 fr)).alloc (.cells #[.int .u8 (f % 256), .int .u8 (t % 256)] 5 fr'))) := by
    intro fr fr'
    exact Lib.hid ((below_alloc w _).alloc (below_alloc w _).size _)
  have hs : (⟨#[byteOf f, byteOf t]⟩ : ByteArray) ++ ⟨bs.toArray⟩ = ⟨(byteOf f :: byteOf t :: bs).toArray⟩ := by
    simp [ByteArray.ext_iff]
  clear hB
  have hl' : ¬ 9223372036854775807 < 2 + bs.length := by omega
  go_enter Try.func23, Try.ntmps23
  go_wp2_with fail
  exact bodyPost_ret (v := .string ⟨(byteOf f :: byteOf t :: bs).toArray⟩) (by simp [results, Try.results23, go_sem]) rfl ⟨rfl, (B0 _ _).out⟩
end Go.Proofs.Ytgkefciojoffgaa
