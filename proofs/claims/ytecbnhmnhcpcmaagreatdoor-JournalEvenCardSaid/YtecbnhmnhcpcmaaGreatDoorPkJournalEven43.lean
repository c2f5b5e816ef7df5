/- The walks of the reference's Posts, May. -/
import Derived.Test.YtecbnhmnhcpcmaaGreatDoorPkJournalEven42
/-! The walks of the reference's Posts, May. -/
namespace Go.Proofs.YtecbnhmnhcpcmaaGreatDoor
open Go.RowKit Go.WideMaps Go.Maps
set_option linter.unusedVariables false
set_option linter.unusedSimpArgs false
set_option maxRecDepth 100000
def PostsEnd (L : List Pt) (seq : Nat) (t : Int) (w : World) (e : Ending) (w' : World) : Prop := e = .returned (.bool (postsB seq t L)) ∧ Below w.heap.size w w'
set_option maxHeartbeats 2000000 in
theorem rposts_any (seq : Nat) (t : Int) (ten : Nat) (lv : Value) (L : List Pt) (w : World) (hl : RowsIn w lv 2 (L.map Pt.cells)) (hs : seq < 18446744073709551616) : Calls Tryz.prog 46 #[postV seq t ten lv] w (PostsEnd L seq t w) := by
  have HL := Lib.hid hl
  have hlen := pt_len hl
  obtain ⟨a, c, rfl⟩ := pt_form hl
  clear hl
  obtain ⟨w1, hw1⟩ : ∃ W, W = w.alloc (.cells #[.int .u64 seq, .int .i64 t, .int .u32 ten, .slice a L.length c] 49) := ⟨_, rfl⟩
  have hb1 : Below w.heap.size w w1 := by rw [hw1]; exact below_alloc _ _
  have O1 : w1.heap[w.heap.size]? = some (.cells #[.int .u64 seq, .int .i64 t, .int .u32 ten, .slice a L.length c] 49 (0, 0)) := by rw [hw1]; exact alloc_block _ _ _ _
  have B1 := Lib.hid hb1
  have c0 : w1.cell? ⟨w.heap.size, 0, none⟩ = some (.int .u64 seq) := by rw [cell_of_row O1]; rfl
  have c1 : w1.cell? ⟨w.heap.size, 1, none⟩ = some (.int .i64 t) := by rw [cell_of_row O1]; rfl
  have c3 : w1.cell? ⟨w.heap.size, 3, none⟩ = some (.slice a L.length c) := by rw [cell_of_row O1]; rfl
  clear O1 hb1
  unfold postV
  by_cases h1 : 0 < seq ∧ 0 ≤ t ∧ t ≤ 137438953472 ∧ 0 < L.length ∧ L.length ≤ 16
  · obtain ⟨q1, q2, q3, q4, q5⟩ := h1
    have HP : Hid (postsB seq t L = !L.any badP) := by
      show _ = _
      unfold postsB
      rw [decide_eq_true ⟨q1, q2, q3, q4, q5⟩, Bool.true_and]
    have d0 : (((seq : Nat) : Int) == 0) = false := by rw [beq_eq_false_iff_ne]; omega
    have d1 : decide (t < 0) = false := decide_eq_false (by omega)
    have d2 : decide ((137438953472 : Int) < t) = false := decide_eq_false (by omega)
    have d3 : decide (((L.length : Nat) : Int) < 1) = false := decide_eq_false (by omega)
    have d4 : decide ((16 : Int) < ((L.length : Nat) : Int)) = false := decide_eq_false (by omega)
    clear q1 q2 q3 q4
    go_enter Tryz.func46, Tryz.ntmps46
    go_upto_region 1 with fail
    rw [← hw1]
    clear hw1
    go_wp2_with fail
    go_loopw [3] (fun iv wr => ∃ k : Nat, k ≤ L.length ∧ iv = .int .i64 k ∧ Hid ((L.take k).any badP = false) ∧ wr = w1) (fun iv _ => L.length - (intOf iv).toNat)
    case atStart => exact ⟨0, by omega, rfl, rfl, rfl⟩
    case round =>
      obtain ⟨k, hk, rfl, HA, hwr⟩ := hrel
      have hwr' := hwr.symm
      subst hwr'
      clear hwr
      by_cases hlt : k < L.length
      · obtain ⟨g, o, rfl, y0, y1⟩ := pt_cells (HL.out.below B1.out) k hlt
        have hz : (k : Int) < L.length := by omega
        have HS : Hid ((L.take (k + 1)).any badP = (badP L[k])) := by
          show _ = _
          rw [List.take_succ_eq_append_getElem hlt, List.any_append, HA.out]
          simp
        have HT : Hid (badP L[k] = true → L.any badP = true) := fun h => List.any_eq_true.2 ⟨_, List.getElem_mem hlt, h⟩
        generalize L[k] = p at *
        obtain ⟨s, n⟩ := p
        dsimp only at y0 y1
        have HB : Hid (badP ⟨s, n⟩ = decide (s.size = 0 ∨ 32 < s.size ∨ n = 0 ∨ n < -4611686018427387904 ∨ 4611686018427387904 < n)) := rfl
        have hx : s.size = 0 ∨ (0 < s.size ∧ 32 < s.size) ∨ (0 < s.size ∧ s.size ≤ 32 ∧ n = 0) ∨ (0 < s.size ∧ s.size ≤ 32 ∧ n ≠ 0 ∧ n < -4611686018427387904) ∨ (0 < s.size ∧ s.size ≤ 32 ∧ n ≠ 0 ∧ -4611686018427387904 ≤ n ∧ 4611686018427387904 < n) ∨ (0 < s.size ∧ s.size ≤ 32 ∧ n ≠ 0 ∧ -4611686018427387904 ≤ n ∧ n ≤ 4611686018427387904) := by omega
        rcases hx with hx | hx | hx | hx | hx | hx
        · have hbad : badP ⟨s, n⟩ = true := decide_eq_true (by dsimp only; omega)
          have d1' : decide (((s.size : Nat) : Int) < 1) = true := decide_eq_true (by omega)
          have HR : Hid (postsB seq t L = false) := by show _ = _; rw [HP.out, HT.out hbad]; rfl
          clear hbad HT HS HB hx
          go_wp2_with fail
          go_ret
          exact ⟨by rw [HR.out]; rfl, B1.out⟩
        · have hbad : badP ⟨s, n⟩ = true := decide_eq_true (by dsimp only; omega)
          have d1' : decide (((s.size : Nat) : Int) < 1) = false := decide_eq_false (by omega)
          have d2' : decide ((32 : Int) < ((s.size : Nat) : Int)) = true := decide_eq_true (by omega)
          have HR : Hid (postsB seq t L = false) := by show _ = _; rw [HP.out, HT.out hbad]; rfl
          clear hbad HT HS HB hx
          go_wp2_with fail
          go_ret
          exact ⟨by rw [HR.out]; rfl, B1.out⟩
        · have hbad : badP ⟨s, n⟩ = true := decide_eq_true (by dsimp only; omega)
          have d1' : decide (((s.size : Nat) : Int) < 1) = false := decide_eq_false (by omega)
          have d2' : decide ((32 : Int) < ((s.size : Nat) : Int)) = false := decide_eq_false (by omega)
          have d3' : (n == 0) = true := by rw [beq_iff_eq]; omega
          have HR : Hid (postsB seq t L = false) := by show _ = _; rw [HP.out, HT.out hbad]; rfl
          clear hbad HT HS HB hx
          go_wp2_with fail
          go_ret
          exact ⟨by rw [HR.out]; rfl, B1.out⟩
        · have hbad : badP ⟨s, n⟩ = true := decide_eq_true (by dsimp only; omega)
          have d1' : decide (((s.size : Nat) : Int) < 1) = false := decide_eq_false (by omega)
          have d2' : decide ((32 : Int) < ((s.size : Nat) : Int)) = false := decide_eq_false (by omega)
          have d3' : (n == 0) = false := by rw [beq_eq_false_iff_ne]; omega
          have d4' : decide (n < -4611686018427387904) = true := decide_eq_true (by omega)
          have HR : Hid (postsB seq t L = false) := by show _ = _; rw [HP.out, HT.out hbad]; rfl
          clear hbad HT HS HB hx
          go_wp2_with fail
          go_ret
          exact ⟨by rw [HR.out]; rfl, B1.out⟩
        · have hbad : badP ⟨s, n⟩ = true := decide_eq_true (by dsimp only; omega)
          have d1' : decide (((s.size : Nat) : Int) < 1) = false := decide_eq_false (by omega)
          have d2' : decide ((32 : Int) < ((s.size : Nat) : Int)) = false := decide_eq_false (by omega)
          have d3' : (n == 0) = false := by rw [beq_eq_false_iff_ne]; omega
          have d4' : decide (n < -4611686018427387904) = false := decide_eq_false (by omega)
          have d5' : decide ((4611686018427387904 : Int) < n) = true := decide_eq_true (by omega)
          have HR : Hid (postsB seq t L = false) := by show _ = _; rw [HP.out, HT.out hbad]; rfl
          clear hbad HT HS HB hx
          go_wp2_with fail
          go_ret
          exact ⟨by rw [HR.out]; rfl, B1.out⟩
        · have hbad : badP ⟨s, n⟩ = false := decide_eq_false (by dsimp only; omega)
          have d1' : decide (((s.size : Nat) : Int) < 1) = false := decide_eq_false (by omega)
          have d2' : decide ((32 : Int) < ((s.size : Nat) : Int)) = false := decide_eq_false (by omega)
          have d3' : (n == 0) = false := by rw [beq_eq_false_iff_ne]; omega
          have d4' : decide (n < -4611686018427387904) = false := decide_eq_false (by omega)
          have d5' : decide ((4611686018427387904 : Int) < n) = false := decide_eq_false (by omega)
          have HS2 : Hid ((L.take (k + 1)).any badP = false) := by show _ = _; rw [HS.out, hbad]
          clear hbad HT HS HB hx
          go_wp2_with fail
          go_roundw
          case rel => exact ⟨k + 1, by omega, by go_num, HS2.out, trivial⟩
          case measure => simp [intOf]; omega
      · have dk : decide ((k : Int) < ((L.length : Nat) : Int)) = false := decide_eq_false (by omega)
        have hany : L.any badP = false := by
          have h := HA.out
          rw [List.take_of_length_le (by omega)] at h
          exact h
        have HR : Hid (postsB seq t L = true) := by show _ = _; rw [HP.out, hany]; rfl
        clear hany
        go_wp2_with fail
        go_ret
        exact ⟨by rw [HR.out]; rfl, B1.out⟩
  · have HR : Hid (postsB seq t L = false) := posts_no h1
    have hx : seq = 0 ∨ (0 < seq ∧ t < 0) ∨ (0 < seq ∧ 0 ≤ t ∧ 137438953472 < t) ∨ (0 < seq ∧ 0 ≤ t ∧ t ≤ 137438953472 ∧ L.length = 0) ∨ (0 < seq ∧ 0 ≤ t ∧ t ≤ 137438953472 ∧ 0 < L.length ∧ 16 < L.length) := by omega
    clear h1 hlen
    go_enter Tryz.func46, Tryz.ntmps46
    go_upto_region 1 with fail
    rw [← hw1]
    clear hw1
    rcases hx with hx | hx | hx | hx | hx
    · have d0 : (((seq : Nat) : Int) == 0) = true := by rw [beq_iff_eq]; omega
      clear hx
      go_wp2_with fail
      go_ret
      exact ⟨by rw [HR.out]; rfl, B1.out⟩
    · have d0 : (((seq : Nat) : Int) == 0) = false := by rw [beq_eq_false_iff_ne]; omega
      have d1 : decide (t < 0) = true := decide_eq_true (by omega)
      clear hx
      go_wp2_with fail
      go_ret
      exact ⟨by rw [HR.out]; rfl, B1.out⟩
    · have d0 : (((seq : Nat) : Int) == 0) = false := by rw [beq_eq_false_iff_ne]; omega
      have d1 : decide (t < 0) = false := decide_eq_false (by omega)
      have d2 : decide ((137438953472 : Int) < t) = true := decide_eq_true (by omega)
      clear hx
      go_wp2_with fail
      go_ret
      exact ⟨by rw [HR.out]; rfl, B1.out⟩
    · have d0 : (((seq : Nat) : Int) == 0) = false := by rw [beq_eq_false_iff_ne]; omega
      have d1 : decide (t < 0) = false := decide_eq_false (by omega)
      have d2 : decide ((137438953472 : Int) < t) = false := decide_eq_false (by omega)
      have d3 : decide (((L.length : Nat) : Int) < 1) = true := decide_eq_true (by omega)
      clear hx
      go_wp2_with fail
      go_ret
      exact ⟨by rw [HR.out]; rfl, B1.out⟩
    · have d0 : (((seq : Nat) : Int) == 0) = false := by rw [beq_eq_false_iff_ne]; omega
      have d1 : decide (t < 0) = false := decide_eq_false (by omega)
      have d2 : decide ((137438953472 : Int) < t) = false := decide_eq_false (by omega)
      have d3 : decide (((L.length : Nat) : Int) < 1) = false := decide_eq_false (by omega)
      have d4 : decide ((16 : Int) < ((L.length : Nat) : Int)) = true := decide_eq_true (by omega)
      clear hx
      go_wp2_with fail
      go_ret
      exact ⟨by rw [HR.out]; rfl, B1.out⟩
end Go.Proofs.YtecbnhmnhcpcmaaGreatDoor
