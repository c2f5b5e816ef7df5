/- The laws' guard: is more asked than a statement looks at? -/
import Derived.Test.YtgkefciojoffgaaNeY
namespace Go.Proofs.Ytgkefciojoffgaa
open Go.RowKit
set_option linter.unusedVariables false
set_option linter.unusedSimpArgs false
attribute [local go_sem ↓] Go.wp_at_zero Go.wp_at_succ
theorem ac_cells {w : World} {a : Option Addr} {n c : Nat} {A : List Ac} (h : RowsIn w (.slice a n c) 5 (A.map Ac.cells)) (i : Nat) (hi : i < A.length) : ∃ b o, a = some ⟨b, o, none⟩ ∧ b < w.heap.size ∧ w.cell? ⟨b, o + i * 5, none⟩ = some (.int .u8 A[i].d) ∧ w.cell? ⟨b, o + i * 5 + 1, none⟩ = some (.int .i64 A[i].f) ∧ w.cell? ⟨b, o + i * 5 + 2, none⟩ = some (.int .i64 A[i].t) ∧ w.cell? ⟨b, o + i * 5 + 3, none⟩ = some A[i].bv ∧ w.cell? ⟨b, o + i * 5 + 4, none⟩ = some (.int .i64 A[i].k) := by
  obtain ⟨b, o, h1, h2⟩ := rows_cell h i (by simpa using hi)
  have e : ((A.map Ac.cells).getD i []) = A[i].cells := by simp [List.getD, hi]
  rw [e] at h2
  have h0 := h2 0 (by omega)
  refine ⟨b, o, h1, World.block_lt_of_cell? w ⟨b, o + (i * 5 + 0), none⟩ (u := .int .u8 A[i].d) h0, h0, ?_, ?_, ?_, ?_⟩
  · rw [Nat.add_assoc]; exact h2 1 (by omega)
  · rw [Nat.add_assoc]; exact h2 2 (by omega)
  · rw [Nat.add_assoc]; exact h2 3 (by omega)
  · rw [Nat.add_assoc]; exact h2 4 (by omega)
def SmallA (A : List Ac) : Prop := A.length ≤ 200 ∧ ∀ a ∈ A, a.bs.length ≤ 5000
def GreatEnd (A : List Ac) (w : World) (e : Ending) (w' : World) : Prop := ∃ b : Bool, e = .returned (.bool b) ∧ (b = false → SmallA A) ∧ w = w'
set_option maxHeartbeats 2000000 in
set_option maxRecDepth 1000000 in
theorem great_any (B : Nat) (v : Value) (A : List Ac) (w : World) (hA : RowsIn w v 5 (A.map Ac.cells)) (hB : ∀ a ∈ A, BytesAt B w a.bv a.bs) :
    Calls Try.prog 18 #[v] w (GreatEnd A w) := by
  obtain ⟨a, c, rfl, h1, h2⟩ := rows_form hA
  simp only [List.length_map] at hA h1 ⊢
  have HA := Lib.hid hA
  have HB := Lib.hid hB
  unfold maxLen at h2
  clear hA hB
  go_enter Try.func18, Try.ntmps18
  go_wp2_with fail
  go_loop [3] (fun i => ∃ k : Nat, k ≤ A.length ∧ k ≤ 201 ∧ i = .int .i64 k ∧ Hid (∀ j (h : j < A.length), j < k → A[j].bs.length ≤ 5000)) (fun i => A.length - (intOf i).toNat)
  case atStart => exact ⟨0, by omega, by omega, rfl, fun j h1 h2 => by omega⟩
  case round =>
    obtain ⟨k, hk, hk2, rfl, HS⟩ := hrel
    by_cases hlt : k < A.length
    · by_cases hl2 : k < 201
      · obtain ⟨b, o, rfl, -, -, -, -, e3, -⟩ := ac_cells HA.out k hlt
        obtain ⟨ba, bc, hf⟩ := (HB.out A[k] (List.getElem_mem hlt)).form
        rw [hf] at e3
        have hz : (k : Int) < A.length := by omega
        have hz2 : (k : Int) < 201 := by omega
        by_cases hg : 5000 < A[k].bs.length
        · clear hf
          go_wp2
          go_ret
          exact ⟨true, rfl, (fun e => by cases e), rfl⟩
        · have HS' : Hid (∀ j (h : j < A.length), j < k + 1 → A[j].bs.length ≤ 5000) := fun j h1 h2 => by
            by_cases e : j = k
            · subst e; omega
            · exact HS.out j h1 (by omega)
          clear hf
          go_wp2
          go_round
          case rel => exact ⟨k + 1, by omega, by omega, by go_num, HS'⟩
          case measure => simp [intOf]; omega
      · have hz : (k : Int) < A.length := by omega
        have hz2 : ¬ ((k : Int) < 201) := by omega
        have hz3 : 200 < A.length := by omega
        go_wp2
        go_ret
        exact ⟨true, ret_bool (by simp; omega), (fun e => by cases e), rfl⟩
    · obtain rfl : k = A.length := by omega
      have HF : Hid (∀ a ∈ A, a.bs.length ≤ 5000) := fun x hx => by
        obtain ⟨j, hj, rfl⟩ := List.mem_iff_getElem.1 hx
        exact HS.out j hj hj
      clear hlt
      go_wp2
      go_ret
      exact ⟨decide (200 < A.length), ret_bool (by simp; omega), fun e => ⟨by simpa using e, HF.out⟩, rfl⟩
end Go.Proofs.Ytgkefciojoffgaa
