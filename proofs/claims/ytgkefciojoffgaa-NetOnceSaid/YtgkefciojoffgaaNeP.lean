/- What the laws' arguments read as: bytes, letters, acts. -/
import Derived.Test.YtgkefciojoffgaaNeN
import Derived.Test.YtgkefciojoffgaaRds
namespace Go.Proofs.Ytgkefciojoffgaa
open Go.RowKit
set_option linter.unusedVariables false
set_option linter.unusedSimpArgs false
theorem cellsOf5 : Try.prog.cellsOf 5 = 1 := by kernel_rfl
theorem cellsOf28 : Try.prog.cellsOf 28 = 1 := by kernel_rfl
theorem cellsOf27 : Try.prog.cellsOf 27 = 1 := by kernel_rfl
theorem cellsOf3 : Try.prog.cellsOf 3 = 1 := by kernel_rfl
theorem cellsOf30 : Try.prog.cellsOf 30 = 3 := by kernel_rfl
theorem cellsOf45 : Try.prog.cellsOf 45 = 5 := by kernel_rfl
theorem bytes_of_reads {w : World} {n : Nat} {cs : List Value} (h : Reads Try.prog w (n + 2) 28 cs) : ∃ v bs, cs = [v] ∧ BytesAt w.heap.size w v bs ∧ bs.length ≤ maxLen := by
  obtain ⟨v, rows, rfl, ⟨a, c, rfl, h1, h2, h3⟩, h4⟩ := slice_of_reads Try.underlying28 (by rw [cellsOf5]; omega) h
  have hb : ∀ r ∈ rows, ∃ b : UInt8, r = [.int .u8 b.toNat] := by
    intro r hr
    obtain ⟨m, rfl, hw⟩ := int_of_reads Try.underlying5 (h4 r hr).2
    obtain ⟨x1, x2⟩ := of_u8 hw
    refine ⟨UInt8.ofNat m.toNat, ?_⟩
    have : (UInt8.ofNat m.toNat).toNat = m.toNat := by
      rw [UInt8.toNat_ofNat']
      exact Nat.mod_eq_of_lt (by omega)
    rw [this]
    congr 2
    omega
  obtain ⟨f, hf⟩ := choose_on hb
  refine ⟨_, rows.map f, rfl, ⟨a, c, by rw [List.length_map], fun e => ?_, fun i hi => ?_⟩, by rw [List.length_map]; omega⟩
  · subst e
    unfold Reads at h
    rw [Try.underlying28] at h
    rcases h with h | ⟨_, _, _, h, _⟩
    · simp at h; exact h.2
    · simp at h
  · rw [List.length_map] at hi
    obtain ⟨b, o, rfl, hlt, hc⟩ := h3 i hi
    refine ⟨b, o, rfl, ?_, .inl hlt⟩
    have := hc 0 (by rw [cellsOf5]; omega)
    rw [cellsOf5, Nat.mul_one, Nat.add_zero] at this
    rw [this, getD_at _ _ _ hi, getD_at _ _ _ (by rw [List.length_map]; exact hi), List.getElem_map]
    have hr := hf rows[i] (List.getElem_mem hi)
    conv => lhs; rw [hr]
    rfl
theorem letter_of_reads {w : World} {n : Nat} {cs : List Value} (h : Reads Try.prog w (n + 3) 30 cs) : ∃ (f t : Int) (bv : Value) (bs : List UInt8), cs = [.int .i64 f, .int .i64 t, bv] ∧ i64 f ∧ i64 t ∧ BytesAt w.heap.size w bv bs ∧ bs.length ≤ maxLen := by
  obtain ⟨h0, h1⟩ := struct_of_reads Try.underlying30 h
  rw [cellsOf30] at h0
  match cs, h0 with
  | [c0, c1, c2], _ =>
    have r0 : Reads Try.prog w (n + 2) 27 (([c0, c1, c2].drop 0).take (Try.prog.cellsOf 27)) := h1 0 _ rfl
    have r1 : Reads Try.prog w (n + 2) 27 (([c0, c1, c2].drop 1).take (Try.prog.cellsOf 27)) := h1 1 _ rfl
    have r2 : Reads Try.prog w (n + 2) 28 (([c0, c1, c2].drop 2).take (Try.prog.cellsOf 28)) := h1 2 _ rfl
    rw [cellsOf27] at r0 r1
    rw [cellsOf28] at r2
    obtain ⟨f, e0, w0⟩ := int_of_reads Try.underlying27 r0
    obtain ⟨t, e1, w1⟩ := int_of_reads Try.underlying27 r1
    obtain ⟨bv, bs, e2, hB, hl⟩ := bytes_of_reads r2
    simp only [List.drop, List.take, List.cons.injEq, and_true] at e0 e1 e2
    subst e0 e1 e2
    exact ⟨f, t, _, bs, rfl, of_i64 w0, of_i64 w1, hB, hl⟩
theorem act_of_reads {w : World} {n : Nat} {cs : List Value} (h : Reads Try.prog w (n + 4) 45 cs) : ∃ (d f t : Int) (bv : Value) (bs : List UInt8) (k : Int), cs = [.int .u8 d, .int .i64 f, .int .i64 t, bv, .int .i64 k] ∧ (0 ≤ d ∧ d ≤ 255) ∧ i64 f ∧ i64 t ∧ BytesAt w.heap.size w bv bs ∧ bs.length ≤ maxLen ∧ i64 k := by
  obtain ⟨h0, h1⟩ := struct_of_reads Try.underlying45 h
  rw [cellsOf45] at h0
  match cs, h0 with
  | [c0, c1, c2, c3, c4], _ =>
    have r0 : Reads Try.prog w (n + 3) 5 (([c0, c1, c2, c3, c4].drop 0).take (Try.prog.cellsOf 5)) := h1 0 _ rfl
    have r1 : Reads Try.prog w (n + 3) 30 (([c0, c1, c2, c3, c4].drop 1).take (Try.prog.cellsOf 30)) := h1 1 _ rfl
    have r2 : Reads Try.prog w (n + 3) 3 (([c0, c1, c2, c3, c4].drop 4).take (Try.prog.cellsOf 3)) := h1 2 _ rfl
    rw [cellsOf5] at r0
    rw [cellsOf30] at r1
    rw [cellsOf3] at r2
    obtain ⟨d, e0, w0⟩ := int_of_reads Try.underlying5 r0
    obtain ⟨f, t, bv, bs, e1, wf, wt, hB, hl⟩ := letter_of_reads r1
    obtain ⟨k, e2, w2⟩ := int_of_reads Try.underlying3 r2
    simp only [List.drop, List.take, List.cons.injEq, and_true] at e0 e1 e2
    obtain ⟨rfl, rfl, rfl⟩ := e1
    subst e0 e2
    exact ⟨d, f, t, _, bs, k, rfl, of_u8 w0, wf, wt, hB, hl, of_i64 w2⟩
/-- a law's act: what to do, a letter, the value of its bytes, a place -/
structure Ac where
  (d f t : Int) (bv : Value) (bs : List UInt8) (k : Int)
def Ac.cells (a : Ac) : List Value := [.int .u8 a.d, .int .i64 a.f, .int .i64 a.t, a.bv, .int .i64 a.k]
def Ac.ok (W : World) (a : Ac) : Prop := (0 ≤ a.d ∧ a.d ≤ 255) ∧ i64 a.f ∧ i64 a.t ∧ BytesAt W.heap.size W a.bv a.bs ∧ a.bs.length ≤ maxLen ∧ i64 a.k
theorem acts_of_reads {w : World} {n : Nat} {cs : List Value} (h : Reads Try.prog w (n + 5) 40 cs) : ∃ (v : Value) (acts : List Ac), cs = [v] ∧ RowsIn w v 5 (acts.map Ac.cells) ∧ ∀ a ∈ acts, Ac.ok w a := by
  obtain ⟨v, rows, rfl, h1, h2⟩ := slice_of_reads Try.underlying40 (by rw [cellsOf45]; omega) h
  rw [cellsOf45] at h1
  have hb : ∀ r ∈ rows, ∃ a : Ac, r = a.cells ∧ a.ok w := fun r hr => by
    obtain ⟨d, f, t, bv, bs, k, e, h⟩ := act_of_reads (h2 r hr).2
    exact ⟨⟨d, f, t, bv, bs, k⟩, e, h⟩
  have : Nonempty Ac := ⟨⟨0, 0, 0, undef, [], 0⟩⟩
  obtain ⟨f, hf⟩ := choose_on hb
  refine ⟨v, rows.map f, rfl, ?_, fun a ha => ?_⟩
  · rw [map_back fun r hr => (hf r hr).1]; exact h1
  · obtain ⟨r, hr, rfl⟩ := List.mem_map.1 ha
    exact (hf r hr).2
theorem letters_of_reads {w : World} {n : Nat} {cs : List Value} (h : Reads Try.prog w (n + 4) 34 cs) : ∃ (v : Value) (L : List Lt), cs = [v] ∧ RowsIn w v 3 (L.map Lt.cells) ∧ ∀ l ∈ L, i64 l.f ∧ i64 l.t ∧ BytesAt w.heap.size w l.bv l.bs ∧ l.bs.length ≤ maxLen := by
  obtain ⟨v, rows, rfl, h1, h2⟩ := slice_of_reads Try.underlying34 (by rw [cellsOf30]; omega) h
  rw [cellsOf30] at h1
  have hb : ∀ r ∈ rows, ∃ l : Lt, r = l.cells ∧ i64 l.f ∧ i64 l.t ∧ BytesAt w.heap.size w l.bv l.bs ∧ l.bs.length ≤ maxLen := fun r hr => by
    obtain ⟨f, t, bv, bs, e, h⟩ := letter_of_reads (h2 r hr).2
    exact ⟨⟨f, t, bv, bs⟩, e, h⟩
  have : Nonempty Lt := ⟨⟨0, 0, undef, []⟩⟩
  obtain ⟨f, hf⟩ := choose_on hb
  refine ⟨v, rows.map f, rfl, ?_, fun a ha => ?_⟩
  · rw [map_back fun r hr => (hf r hr).1]; exact h1
  · obtain ⟨r, hr, rfl⟩ := List.mem_map.1 ha
    exact (hf r hr).2
end Go.Proofs.Ytgkefciojoffgaa
