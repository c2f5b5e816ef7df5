/- Lines held against each other. -/
import Derived.Test.YtmppkhjjlgngkaaGreatDoorRnI
import Derived.Laws.StructEq
namespace Go.Proofs.YtmppkhjjlgngkaaGreatDoor
open Go.RowKit Civ Ren Go.Shelf
set_option linter.unusedVariables false
set_option linter.unusedSimpArgs false
set_option maxHeartbeats 2000000 in
theorem neq_line (l m : Ren.Ln) (h : ¬ l = m) (w : World) : (binOp .neq 39 (.agg #[.int .u8 l.k, .int .u32 l.p, .int .i64 l.d, .int .i64 l.u, .int .i64 l.a]) (.agg #[.int .u8 m.k, .int .u32 m.p, .int .i64 m.d, .int .i64 m.u, .int .i64 m.a])).run Tryz.prog w = .ok (.bool true) w := by
  have hx : (l.k == m.k) = false ∨ ((l.k == m.k) = true ∧ (l.p == m.p) = false) ∨ ((l.k == m.k) = true ∧ (l.p == m.p) = true ∧ (l.d == m.d) = false) ∨ ((l.k == m.k) = true ∧ (l.p == m.p) = true ∧ (l.d == m.d) = true ∧ (l.u == m.u) = false) ∨ ((l.k == m.k) = true ∧ (l.p == m.p) = true ∧ (l.d == m.d) = true ∧ (l.u == m.u) = true ∧ (l.a == m.a) = false) := by
    obtain ⟨k, p, d, u, a⟩ := l
    obtain ⟨k', p', d', u', a'⟩ := m
    simp only [Ren.Ln.mk.injEq] at h
    simp only [beq_eq_false_iff_ne, beq_iff_eq, ne_eq]
    omega
  have hu := Tryz.underlying39
  have hf : Tryz.prog.underlying 39 = some (.struct (Tryz.prog.fieldsOf 39)) := by simp [Program.fieldsOf, hu]
  rw [run_neq_struct, run_equalIn_struct w 9999 39 _ _ hf (by kernel_rfl)]
  rcases hx with h1 | ⟨h1, h2⟩ | ⟨h1, h2, h3⟩ | ⟨h1, h2, h3, h4⟩ | ⟨h1, h2, h3, h4, h5⟩
  all_goals
    simp [go_sem, Program.fieldsOf, hu, Op.eqFields, *]
end Go.Proofs.YtmppkhjjlgngkaaGreatDoor
