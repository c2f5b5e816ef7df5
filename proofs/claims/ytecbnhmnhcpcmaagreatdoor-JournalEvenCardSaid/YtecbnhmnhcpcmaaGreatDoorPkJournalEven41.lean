/- The walks of the reference's numbers of 128 bits: Small, Sum. -/
import Derived.Test.YtecbnhmnhcpcmaaGreatDoorPkJournalEven40
import Derived.ChangeKeysEq
/-! The walks of the reference's numbers of 128 bits: Small, Sum. -/
namespace Go.Proofs.YtecbnhmnhcpcmaaGreatDoor
open Go.RowKit Go.WideMaps Go.Maps
set_option linter.unusedVariables false
set_option linter.unusedSimpArgs false
set_option maxRecDepth 100000
theorem infoU64 : (Tryz.prog.info? 23).map (fun i => (i.zero, i.size, i.bytes)) = some (some (.int .u64 0), 1, 8) := by kernel_rfl
theorem cellsU64 : Tryz.prog.cellsOf 23 = 1 := by kernel_rfl
theorem range4 : List.range 4 = [0, 1, 2, 3] := rfl
set_option maxHeartbeats 1000000 in
theorem neq_bigs (a b : Bg) (w : World) : (binOp .neq 115 (.agg #[.int .u64 a.d0, .int .u64 a.d1, .int .u64 a.d2, .int .u64 a.d3]) (.agg #[.int .u64 b.d0, .int .u64 b.d1, .int .u64 b.d2, .int .u64 b.d3])).run Tryz.prog w = .ok (.bool (decide (¬ (a.d0 = b.d0 ∧ a.d1 = b.d1 ∧ a.d2 = b.d2 ∧ a.d3 = b.d3)))) w := by
  obtain ⟨i0, hi, hz0, hz1, hz2⟩ := info_parts infoU64
  rw [run_neq_struct, run_equalIn_array w 9999 _ _ Tryz.underlying115 hi, cellsU64, range4]
  obtain ⟨a0, a1, a2, a3⟩ := a
  obtain ⟨b0, b1, b2, b3⟩ := b
  dsimp only
  by_cases h0 : a0 = b0 <;> by_cases h1 : a1 = b1 <;> by_cases h2 : a2 = b2 <;> by_cases h3 : a3 = b3 <;>
    simp [go_sem, Op.eqItems, h0, h1, h2, h3] <;> (intros; omega)
/-- as a number of 64 bits, if it is one -/
def sameG (a b : Bg) : Bool := decide (a.d0 = b.d0 ∧ a.d1 = b.d1 ∧ a.d2 = b.d2 ∧ a.d3 = b.d3)
theorem sameG_iff {a b : Bg} : sameG a b = true ↔ a = b := by
  obtain ⟨a0, a1, a2, a3⟩ := a
  obtain ⟨b0, b1, b2, b3⟩ := b
  unfold sameG
  rw [decide_eq_true_eq, Bg.mk.injEq]
def smallB (b : Bg) : Bool := sameG (bgOf (bgLow b)) b
theorem neq_bigs2 {a b : Bg} {c : Bool} (h : sameG a b = c) (w : World) : (binOp .neq 115 (.agg #[.int .u64 a.d0, .int .u64 a.d1, .int .u64 a.d2, .int .u64 a.d3]) (.agg #[.int .u64 b.d0, .int .u64 b.d1, .int .u64 b.d2, .int .u64 b.d3])).run Tryz.prog w = .ok (.bool (!c)) w := by
  rw [neq_bigs, ← h]
  unfold sameG
  by_cases hp : a.d0 = b.d0 ∧ a.d1 = b.d1 ∧ a.d2 = b.d2 ∧ a.d3 = b.d3
  · rw [decide_eq_true hp, decide_eq_false (fun h => h hp)]; rfl
  · rw [decide_eq_false hp, decide_eq_true hp]; rfl
set_option maxHeartbeats 1000000 in
theorem bsmall_any (b : Bg) (w : World) (hb : b.ok) : Calls Tryz.prog 60 #[.agg b.cells] w fun e w' => e = .returned (.tuple #[.int .i64 (if smallB b = true then bgLow b else 0), .bool (smallB b)]) ∧ Below w.heap.size w w' := by
  obtain ⟨w1, hw1⟩ : ∃ W, W = w.alloc (.cells b.cells 115) := ⟨_, rfl⟩
  have hb1 : Below w.heap.size w w1 := by rw [hw1]; exact below_alloc _ _
  have O1 : w1.heap[w.heap.size]? = some (.cells b.cells 115 (0, 0)) := by rw [hw1]; exact alloc_block _ _ _ _
  have B1 := Lib.hid hb1
  have HLI := Lib.hid (bgLow_in b)
  obtain ⟨hd0, hd1, -, -⟩ := hb
  have HL : Hid (bgLow b = wrap64 ((b.d0 + b.d1 * 4294967296 : Nat) : Int)) := rfl
  obtain ⟨sb, hsb⟩ : ∃ s, s = smallB b := ⟨_, rfl⟩
  have HSB : Hid (sameG (bgOf (bgLow b)) b = sb) := hsb.symm
  rw [← hsb]
  clear hb1 hsb
  generalize bgLow b = x at *
  obtain ⟨⟨e0, e1, e2, e3⟩, he⟩ : ∃ r, r = bgOf x := ⟨_, rfl⟩
  have OX : Hid (∀ W, Calls Tryz.prog 59 #[.int .i64 x] W fun e w' => e = .returned (.agg #[.int .u64 e0, .int .u64 e1, .int .u64 e2, .int .u64 e3]) ∧ Below W.heap.size W w') := fun W => by
    have := bof_any x W HLI.out
    rw [← he] at this
    exact this
  rw [← he] at HSB
  clear he
  obtain ⟨b0, b1, b2, b3⟩ := b
  dsimp only at hd0 hd1 HL
  have NQ := fun (W : World) => neq_bigs2 HSB.out W
  dsimp only at NQ
  have c0 : w1.cell? ⟨w.heap.size, 0, none⟩ = some (.int .u64 b0) := by rw [cell_of_row O1]; rfl
  have c1 : w1.cell? ⟨w.heap.size, 1, none⟩ = some (.int .u64 b1) := by rw [cell_of_row O1]; rfl
  have c2 : w1.cell? ⟨w.heap.size, 2, none⟩ = some (.int .u64 b2) := by rw [cell_of_row O1]; rfl
  have c3 : w1.cell? ⟨w.heap.size, 3, none⟩ = some (.int .u64 b3) := by rw [cell_of_row O1]; rfl
  have HX : wrap64 ((b0 : Int) + (b1 : Int) * 4294967296) = x := by rw [HL.out]; unfold wrap64; omega
  have KX : Hid (∀ W, Below w1.heap.size w1 W → W.cell? ⟨w.heap.size, 0, none⟩ = some (.int .u64 b0) ∧ W.cell? ⟨w.heap.size, 1, none⟩ = some (.int .u64 b1) ∧ W.cell? ⟨w.heap.size, 2, none⟩ = some (.int .u64 b2) ∧ W.cell? ⟨w.heap.size, 3, none⟩ = some (.int .u64 b3)) := by
    have q0 := c0; have q1 := c1; have q2 := c2; have q3 := c3
    exact fun W hb => ⟨stays hb q0, stays hb q1, stays hb q2, stays hb q3⟩
  clear O1 HSB HLI HL
  go_enter Tryz.func60, Tryz.ntmps60
  go_upto_region 1 with fail
  rw [← hw1]
  clear hw1
  go_upto_region 2 with fail
  refine wp_region_held_drew (S := (fun W => W.cell? ⟨w.heap.size, 0, none⟩ = some (.int .u64 b0) ∧ W.cell? ⟨w.heap.size, 1, none⟩ = some (.int .u64 b1) ∧ W.cell? ⟨w.heap.size, 2, none⟩ = some (.int .u64 b2) ∧ W.cell? ⟨w.heap.size, 3, none⟩ = some (.int .u64 b3))) (by kernel_rfl) ?_ (fun hHeld => ?_)
  · (try dsimp only)
    exact KX.out _ (Below.refl _ _).drew
  refine Plan.start (plan := [0, 2]) (fuel := 2) (by decide +kernel) (by assumption) ?_
  refine Plan.free (i := 0) (ds := some 12) (v := ?_) rfl rfl rfl ?_ (fun _ _ _ h => h) ?_
  rotate_left
  · (intro w hSw; (try dsimp only at hSw); go_simp; first | done | with_reducible rfl)
  (try simp only [Act.put, List.setIfInBounds_toArray, List.set_cons_zero, List.set_cons_succ])
  refine Plan.free (i := 2) (ds := some 14) (v := ?_) rfl rfl rfl ?_ (fun _ _ _ h => h) ?_
  rotate_left
  · (intro w hSw; (try dsimp only at hSw); go_simp; first | done | with_reducible rfl)
  (try simp only [Act.put, List.setIfInBounds_toArray, List.set_cons_zero, List.set_cons_succ])
  refine Plan.stop (fun hHeld => ?_)
  refine wpAnyH_ready (rs := [1]) (by decide +kernel) (by simp) ?_
  refine AllReadyH.cons (o := _) rfl ?_ AllReadyH.nil
  intro K hK
  rw [if_pos (wanted_none (by rfl))]
  (go_simp; go_at_call 59; refine (OX.out _).mono ?_; rintro e w3 ⟨rfl, hb⟩; have B3 : Hid (Below w1.heap.size w1 w3) := onward hb ((Below.refl _ _).drew); clear hb)
  refine hK.out _ _ ?_ (fun hHeld => ?_)
  · (try dsimp only)
    exact KX.out _ B3.out
  clear hK K
  (try simp only [Act.put, List.setIfInBounds_toArray, List.set_cons_zero, List.set_cons_succ])
  refine Plan.start (plan := [3]) (fuel := 0) (by decide +kernel) (by assumption) ?_
  refine Plan.free (i := 3) (ds := some 15) (v := ?_) rfl rfl rfl ?_ (fun _ _ _ h => h) ?_
  rotate_left
  · (intro w hSw; (try dsimp only at hSw); go_simp; first | done | with_reducible rfl)
  (try simp only [Act.put, List.setIfInBounds_toArray, List.set_cons_zero, List.set_cons_succ])
  refine Plan.stop (fun hHeld => ?_)
  refine wpAnyH_done (by decide +kernel) ?_ _
  clear NQ OX hHeld
  cases sb
  · go_wp2_with fail
    go_ret2
    exact ⟨rfl, onward B3.out B1.out⟩
  · go_wp2_with fail
    go_ret2
    exact ⟨rfl, onward B3.out B1.out⟩
end Go.Proofs.YtecbnhmnhcpcmaaGreatDoor
