/- What the laws' arguments read as: a posting, a list of postings. -/
import Derived.Test.YtecbnhmnhcpcmaaGreatDoorJnT
namespace Go.Proofs.YtecbnhmnhcpcmaaGreatDoor
open Go.RowKit
set_option linter.unusedVariables false
set_option linter.unusedSimpArgs false
set_option maxRecDepth 1000000
theorem jcellsOfPart : Tryz.prog.cellsOf 41 = 2 := by kernel_rfl
theorem jcellsOfParts : Tryz.prog.cellsOf 36 = 1 := by kernel_rfl
theorem jcellsOfAct : Tryz.prog.cellsOf 38 = 3 := by kernel_rfl
theorem jcellsOfU32 : Tryz.prog.cellsOf 35 = 1 := by kernel_rfl
theorem jcellsOfI64 : Tryz.prog.cellsOf 2 = 1 := by kernel_rfl
theorem jcellsOfStr : Tryz.prog.cellsOf 9 = 1 := by kernel_rfl
theorem jpart_of_reads {w : World} {n : Nat} {cs : List Value} (h : Reads Tryz.prog w (n + 2) 41 cs) : ∃ q : Pt, cs = q.cells ∧ Acct.inInt q.n := by
  obtain ⟨h0, h1⟩ := struct_of_reads Tryz.underlying41 h
  rw [jcellsOfPart] at h0
  match cs, h0 with
  | [c0, c1], _ =>
    have r0 : Reads Tryz.prog w (n + 1) 9 (([c0, c1].drop 0).take (Tryz.prog.cellsOf 9)) := h1 0 _ rfl
    have r1 : Reads Tryz.prog w (n + 1) 2 (([c0, c1].drop 1).take (Tryz.prog.cellsOf 2)) := h1 1 _ rfl
    rw [jcellsOfStr] at r0
    rw [jcellsOfI64] at r1
    obtain ⟨m0, e0, -⟩ := string_of_reads Tryz.underlying9 r0
    obtain ⟨m1, e1, w1⟩ := int_of_reads Tryz.underlying2 r1
    simp only [List.drop, List.take, List.cons.injEq, and_true] at e0 e1
    subst e0 e1
    exact ⟨⟨m0, m1⟩, rfl, of_i64 w1⟩
theorem jparts_of_reads {w : World} {n : Nat} {cs : List Value} (h : Reads Tryz.prog w (n + 3) 36 cs) : ∃ (v : Value) (L : List Pt), cs = [v] ∧ RowsIn w v 2 (L.map Pt.cells) ∧ (∀ q ∈ L, Acct.inInt q.n) ∧ ∀ n c, v = .slice none n c → n = 0 ∧ c = 0 := by
  have h0 := h
  obtain ⟨v, rows, rfl, h1, h2⟩ := slice_of_reads Tryz.underlying36 (by rw [jcellsOfPart]; omega) h
  rw [jcellsOfPart] at h1
  have hb : ∀ r ∈ rows, ∃ q : Pt, r = q.cells ∧ Acct.inInt q.n := fun r hr => jpart_of_reads (h2 r hr).2
  have : Nonempty Pt := ⟨⟨ByteArray.empty, 0⟩⟩
  obtain ⟨f, hf⟩ := choose_on hb
  refine ⟨v, rows.map f, rfl, ?_, fun a ha => ?_, fun n c e => ?_⟩
  · rw [map_back fun r hr => (hf r hr).1]; exact h1
  · obtain ⟨r, hr, rfl⟩ := List.mem_map.1 ha
    exact (hf r hr).2
  · subst e
    unfold Reads at h0
    rw [Tryz.underlying36] at h0
    rcases h0 with h0 | ⟨_, _, _, h0, _⟩
    · simpa using h0
    · simp at h0
theorem jact_of_reads {w : World} {n : Nat} {cs : List Value} (h : Reads Tryz.prog w (n + 4) 38 cs) : ∃ a : Ac, cs = a.cells ∧ a.ok w ∧ ∀ n c, a.pv = .slice none n c → n = 0 ∧ c = 0 := by
  obtain ⟨h0, h1⟩ := struct_of_reads Tryz.underlying38 h
  rw [jcellsOfAct] at h0
  match cs, h0 with
  | [c0, c1, c2], _ =>
    have r0 : Reads Tryz.prog w (n + 3) 2 (([c0, c1, c2].drop 0).take (Tryz.prog.cellsOf 2)) := h1 0 _ rfl
    have r1 : Reads Tryz.prog w (n + 3) 35 (([c0, c1, c2].drop 1).take (Tryz.prog.cellsOf 35)) := h1 1 _ rfl
    have r2 : Reads Tryz.prog w (n + 3) 36 (([c0, c1, c2].drop 2).take (Tryz.prog.cellsOf 36)) := h1 2 _ rfl
    rw [jcellsOfI64] at r0
    rw [jcellsOfU32] at r1
    rw [jcellsOfParts] at r2
    obtain ⟨m0, e0, w0⟩ := int_of_reads Tryz.underlying2 r0
    obtain ⟨m1, e1, w1⟩ := int_of_reads Tryz.underlying35 r1
    obtain ⟨pv, L, e2, hL, hok, hnn⟩ := jparts_of_reads r2
    simp only [List.drop, List.take, List.cons.injEq, and_true] at e0 e1 e2
    subst e0 e1 e2
    exact ⟨⟨m0, m1, _, L⟩, rfl, ⟨hL, of_u32 w1, of_i64 w0, hok⟩, hnn⟩
theorem open_act {H : Type} {enc : TypeId × Value → H} {w : World} {r : Reach} {base b0 : Nat} {held : Bool} {v : Value} {d : DataW H} {p : List MemPlace} (hv : Value.okWide Tryz.prog w r b0 38 v) (h : DataW.Trod enc Tryz.prog w base (fun _ => true) held 38 v d p) :
    ∃ x : Ac, v = .agg #[.int .i64 x.t, .int .u32 x.ten, x.pv] ∧ x.ok w ∧ ∀ n c, x.pv = .slice none n c → n = 0 ∧ c = 0 := by
  obtain ⟨cs, rfl, hsz⟩ := Go.WideShapes.okWide_struct Tryz.underlying38 hv
  obtain ⟨x, e, h1, h2⟩ := jact_of_reads (n := 0) (reads_of_Trod 4 h)
  refine ⟨x, ?_, h1, h2⟩
  obtain ⟨l⟩ := cs
  have e' : l = [.int .i64 x.t, .int .u32 x.ten, x.pv] := by simpa [Value.cells, Ac.cells] using e
  rw [e']
theorem open_acts {H : Type} {enc : TypeId × Value → H} {w : World} {r : Reach} {base b0 : Nat} {held : Bool} {v : Value} {d : DataW H} {p : List MemPlace} (hw : Value.okWide Tryz.prog w r b0 22 v) (h : DataW.Trod enc Tryz.prog w base (fun _ => true) held 22 v d p) :
    ∃ L : List Ac, RowsIn w v 3 (L.map Ac.cells) ∧ ∀ a ∈ L, a.ok w := by
  obtain ⟨a0, len, cap, rfl⟩ := Go.WideShapes.okWide_slice Tryz.underlying22 hw
  obtain ⟨v', rows, e, h1, h2⟩ := slice_of_reads Tryz.underlying22 (by rw [jcellsOfAct]; omega) (reads_of_Trod 5 h)
  simp only [Value.cells] at e
  injection e with e _
  subst e
  rw [jcellsOfAct] at h1
  have hb : ∀ r ∈ rows, ∃ a : Ac, r = a.cells ∧ a.ok w := fun r hr => by
    obtain ⟨a, h3, h4, -⟩ := jact_of_reads (n := 0) (h2 r hr).2
    exact ⟨a, h3, h4⟩
  have : Nonempty Ac := ⟨⟨0, 0, .bool true, []⟩⟩
  obtain ⟨f, hf⟩ := choose_on hb
  refine ⟨rows.map f, ?_, fun a ha => ?_⟩
  · rw [map_back fun r hr => (hf r hr).1]; exact h1
  · obtain ⟨r, hr, rfl⟩ := List.mem_map.1 ha
    exact (hf r hr).2
end Go.Proofs.YtecbnhmnhcpcmaaGreatDoor
