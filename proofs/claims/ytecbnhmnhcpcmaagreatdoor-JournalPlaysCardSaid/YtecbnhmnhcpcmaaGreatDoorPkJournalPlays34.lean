/- The walk of the reference's numbers of 128 bits: Add. The walks of the reference's numbers of 128 bits: Small, Sum. -/
import Derived.Test.YtecbnhmnhcpcmaaGreatDoorPkJournalPlays33
import Derived.ChangeKeysEq
/-! The walk of the reference's numbers of 128 bits: Add. -/
namespace Go.Proofs.YtecbnhmnhcpcmaaGreatDoor
open Go.RowKit Go.WideMaps Go.Maps
set_option linter.unusedVariables false
set_option linter.unusedSimpArgs false
set_option maxRecDepth 100000
def dgB (b : Bg) : Nat → Nat
  | 0 => b.d0
  | 1 => b.d1
  | 2 => b.d2
  | _ => b.d3
def cyB (a b : Bg) : Nat → Nat
  | 0 => 0
  | k + 1 => (dgB a k + dgB b k + cyB a b k) / 4294967296
def outB (a b : Bg) (k j : Nat) : Nat := if j < k then (dgB a j + dgB b j + cyB a b j) % 4294967296 else 0
def outsB (a b : Bg) (k : Nat) : Array Value := #[.int .u64 (outB a b k 0), .int .u64 (outB a b k 1), .int .u64 (outB a b k 2), .int .u64 (outB a b k 3)]
theorem outs_end (a b : Bg) : outsB a b 4 = (bgAdd a b).cells := rfl
theorem outs_step (a b : Bg) {k : Nat} (hk : k < 4) : (outsB a b k).setIfInBounds k (.int .u64 (((dgB a k + dgB b k + cyB a b k) % 4294967296 : Nat) : Int)) = outsB a b (k + 1) := by
  have h : k = 0 ∨ k = 1 ∨ k = 2 ∨ k = 3 := by omega
  rcases h with rfl | rfl | rfl | rfl <;> rfl
theorem dg_lt {b : Bg} (h : b.ok) (k : Nat) : dgB b k < 4294967296 := by
  obtain ⟨h0, h1, h2, h3⟩ := h
  unfold dgB
  split <;> assumption
theorem cy_lt {a b : Bg} (ha : a.ok) (hb : b.ok) : ∀ k, cyB a b k < 4294967296
  | 0 => by show 0 < _; omega
  | k + 1 => by
    have := cy_lt ha hb k
    have := dg_lt ha k
    have := dg_lt hb k
    show (dgB a k + dgB b k + cyB a b k) / 4294967296 < _
    omega
theorem big_at {w : World} {g T : Nat} {b : Bg} (h : w.heap[g]? = some (.cells b.cells T (0, 0))) {k : Nat} (hk : k < 4) : w.cell? ⟨g, k, none⟩ = some (.int .u64 (dgB b k)) := by
  rw [cell_of_row h]
  have h : k = 0 ∨ k = 1 ∨ k = 2 ∨ k = 3 := by omega
  rcases h with rfl | rfl | rfl | rfl <;> rfl
theorem badd_start {a b : Bg} : outsB a b 0 = #[.int .u64 ((0 : Nat) : Int), .int .u64 ((0 : Nat) : Int), .int .u64 ((0 : Nat) : Int), .int .u64 ((0 : Nat) : Int)] := rfl
theorem set_cells {w : World} {p k T : Nat} {cs : Array Value} {u : Value} (h : w.heap[p]? = some (.cells cs T (0, 0))) : (w.setCell ⟨p, k, none⟩ u).heap[p]? = some (.cells (cs.setIfInBounds k u) T (0, 0)) := by
  unfold World.setCell
  simp only [Array.getElem?_modify, if_true, h]
  rfl
theorem grown_own {w w1 : World} {p k : Nat} {u : Value} (h : w.grownBy w1 (some p)) : w.grownBy (w1.setCell ⟨p, k, none⟩ u) (some p) := by
  have k2 := Kept.setCell (S := fun k => k = p) w1 ⟨p, k, none⟩ u rfl
  refine ⟨k2.os.trans h.os, k2.tape.trans h.tape, k2.output.trans h.output, Nat.le_trans h.size k2.size, fun i hi hne => ?_⟩
  rw [k2.block i (Nat.lt_of_lt_of_le hi h.size) (fun e => hne (by rw [e]))]
  exact h.block i hi hne
theorem grown_drew {w w1 : World} {r : Option Nat} (h : w.grownBy w1 r) (n : Nat) : w.grownBy (w1.drewN n) r := ⟨h.os, h.tape, h.output, h.size, h.block⟩
theorem four_allocs {w : World} {A B C D : Array Value} {T : Nat} : ∃ W, W = ((((w.alloc (.cells A T)).alloc (.cells B T)).alloc (.cells C T)).alloc (.cells D T)) ∧ W.heap[w.heap.size]? = some (.cells A T (0, 0)) ∧ W.heap[w.heap.size + 1]? = some (.cells B T (0, 0)) ∧ W.heap[w.heap.size + 1 + 1]? = some (.cells C T (0, 0)) ∧ W.heap[w.heap.size + 1 + 1 + 1]? = some (.cells D T (0, 0)) ∧ Below w.heap.size w W := by
  refine ⟨_, rfl, ?_⟩
  have a1 := alloc_block w A T (0, 0)
  have s1 : (w.alloc (.cells A T)).heap.size = w.heap.size + 1 := by simp
  have b1 := below_alloc w (.cells A T)
  generalize w.alloc (.cells A T) = w1 at *
  have a2 := alloc_block w1 B T (0, 0)
  have s2 : (w1.alloc (.cells B T)).heap.size = w1.heap.size + 1 := by simp
  have b2 := below_alloc w1 (.cells B T)
  generalize w1.alloc (.cells B T) = w2 at *
  have a3 := alloc_block w2 C T (0, 0)
  have s3 : (w2.alloc (.cells C T)).heap.size = w2.heap.size + 1 := by simp
  have b3 := below_alloc w2 (.cells C T)
  generalize w2.alloc (.cells C T) = w3 at *
  have a4 := alloc_block w3 D T (0, 0)
  have b4 := below_alloc w3 (.cells D T)
  rw [s3, s2, s1] at a4
  rw [s2, s1] at a3
  rw [s1] at a2
  exact ⟨stays_block b4 (stays_block b3 (stays_block b2 a1)), stays_block b4 (stays_block b3 a2), stays_block b4 a3, a4, onward b4 (onward b3 (onward b2 b1))⟩
set_option maxHeartbeats 1000000 in
theorem badd_any (a b : Bg) (w : World) (ha : a.ok) (hb : b.ok) : Calls Tryz.prog 58 #[.agg a.cells, .agg b.cells] w fun e w' => e = .returned (.agg (bgAdd a b).cells) ∧ Below w.heap.size w w' := by
  have HA := Lib.hid ha
  have HB := Lib.hid hb
  obtain ⟨W0, hW0, f1, f2, f3, f4, f5⟩ := four_allocs (w := w) (A := a.cells) (B := b.cells) (C := #[.int .u64 0, .int .u64 0, .int .u64 0, .int .u64 0]) (D := #[.int .u64 0, .int .u64 0, .int .u64 0, .int .u64 0]) (T := 115)
  have F := Lib.hid (And.intro f1 (And.intro f2 (And.intro f3 (And.intro f4 f5))))
  clear f1 f2 f3 f4 f5
  clear ha hb
  go_enter Tryz.func58, Tryz.ntmps58
  go_wp2_with fail
  rw [← hW0]
  clear hW0
  have GG : Hid (w.heap.size ≤ w.heap.size + 1 + 1 + 1 ∧ w.heap.size ≤ w.heap.size + 1 + 1 ∧ w.heap.size ≠ w.heap.size + 1 + 1 + 1 ∧ w.heap.size + 1 ≠ w.heap.size + 1 + 1 + 1 ∧ w.heap.size + 1 + 1 ≠ w.heap.size + 1 + 1 + 1) := by refine ⟨?_, ?_, ?_, ?_, ?_⟩ <;> omega
  generalize w.heap.size + 1 + 1 + 1 = gO at *
  generalize w.heap.size + 1 + 1 = gR at *
  generalize w.heap.size + 1 = gB at *
  go_loopw [6, 7] (fun cv iv wr => ∃ k : Nat, k ≤ 4 ∧ iv = .int .i64 k ∧ cv = .int .u64 (cyB a b k) ∧ Hid (wr.heap[gO]? = some (.cells (outsB a b k) 115 (0, 0))) ∧ Hid (W0.grownBy wr (some gO))) (fun _ iv _ => 4 - (intOf iv).toNat)
  case atStart => exact ⟨0, by omega, rfl, rfl, F.out.2.2.2.1, World.grownBy.refl _ _⟩
  case round =>
    obtain ⟨k, hk, rfl, rfl, OR, GR⟩ := hrel
    by_cases hlt : k < 4
    · have hz : (k : Int) < 4 := by omega
      have ya : wr.cell? ⟨w.heap.size, k, none⟩ = some (.int .u64 (dgB a k)) := big_at ((GR.out.block _ (lt_of_block F.out.1) (fun e => GG.out.2.2.1 (by injection e))).trans F.out.1) hlt
      have yb : wr.cell? ⟨gB, k, none⟩ = some (.int .u64 (dgB b k)) := big_at ((GR.out.block _ (lt_of_block F.out.2.1) (fun e => GG.out.2.2.2.1 (by injection e))).trans F.out.2.1) hlt
      have hf : wr.frozen? ⟨gO, k, none⟩ = false := free_of_row OR.out
      have b1 := dg_lt HA.out k
      have b2 := dg_lt HB.out k
      have b3 := cy_lt HA.out HB.out k
      have HS := Lib.hid (outs_step a b hlt)
      have HCY : Hid (cyB a b (k + 1) = (dgB a k + dgB b k + cyB a b k) / 4294967296) := rfl
      generalize dgB a k = x at *
      generalize dgB b k = y at *
      generalize cyB a b k = c at *
      obtain ⟨s1, hs1⟩ : ∃ s1 : Nat, s1 = x + y := ⟨_, rfl⟩
      obtain ⟨s2, hs2⟩ : ∃ s2 : Nat, s2 = x + y + c := ⟨_, rfl⟩
      have hw1 : IntKind.u64.wrap ((x : Int) + (y : Int)) = (s1 : Int) := by rw [IntWalk.u64_in _ (by omega)]; omega
      have hw2 : IntKind.u64.wrap ((s1 : Int) + (c : Int)) = (s2 : Int) := by rw [IntWalk.u64_in _ (by omega)]; omega
      rw [← hs2] at HS HCY
      have WO : Hid (wr.heap[gO]? = some (.cells (outsB a b k) 115 (0, 0))) := OR.out
      clear hs1 hs2 b1 b2 b3 OR
      go_upto_region 6 with fail
      go_quiet (fail)
      obtain ⟨wq, hq⟩ : ∃ W, W = wr.drewN nq := ⟨_, rfl⟩
      rw [← hq]
      have GQ : Hid (W0.grownBy wq (some gO)) := by rw [hq]; exact grown_drew GR.out _
      have OQ : Hid (wq.heap[gO]? = some (.cells (outsB a b k) 115 (0, 0))) := by rw [hq]; exact WO.out
      clear hq ya yb hf WO
      have hf : wq.frozen? ⟨gO, k, none⟩ = false := free_of_row OQ.out
      have ON : Hid ((wq.setCell ⟨gO, k, none⟩ (.int .u64 ((s2 : Int) % 4294967296))).heap[gO]? = some (.cells (outsB a b (k + 1)) 115 (0, 0))) := by
        rw [← HS.out]
        exact set_cells OQ.out
      have GN : Hid (W0.grownBy (wq.setCell ⟨gO, k, none⟩ (.int .u64 ((s2 : Int) % 4294967296))) (some gO)) := grown_own GQ.out
      have hcl : ∃ v, wq.cell? ⟨gO, k, none⟩ = some v := by
        rw [cell_of_row OQ.out]
        have h4 : k < (outsB a b k).size := hlt
        exact ⟨_, Array.getElem?_eq_getElem h4⟩
      obtain ⟨vo, hcl⟩ := hcl
      clear hw1 hw2
      go_wp2_with fail
      go_roundw
      case rel => exact ⟨k + 1, by omega, by go_num, by rw [HCY.out]; rfl, ON.out, GN.out⟩
      case measure => simp [intOf]; omega
    · obtain rfl : k = 4 := by omega
      have O4 : wr.heap[gO]? = some (.cells (bgAdd a b).cells 115 (0, 0)) := OR.out
      have R4 := (GR.out.block _ (lt_of_block F.out.2.2.1) (fun e => GG.out.2.2.2.2 (by injection e))).trans F.out.2.2.1
      have BF : Hid (Below w.heap.size w wr) := F.out.2.2.2.2.grown GR.out F.out.2.2.2.2.size (fun j hj => by injection hj with hj; rw [← hj]; exact GG.out.1)
      have GL := GG.out.2.1
      obtain ⟨⟨d0, d1, d2, d3⟩, hba⟩ : ∃ r, r = bgAdd a b := ⟨_, rfl⟩
      rw [← hba] at O4
      have HBA := Lib.hid hba
      clear hba
      have HR := Lib.hid R4
      have hf0 : wr.frozen? ⟨gR, 0, none⟩ = false := free_of_row R4
      have hf1 : wr.frozen? ⟨gR, 1, none⟩ = false := free_of_row R4
      have hf2 : wr.frozen? ⟨gR, 2, none⟩ = false := free_of_row R4
      have hf3 : wr.frozen? ⟨gR, 3, none⟩ = false := free_of_row R4
      have hg0 : wr.cell? ⟨gR, 0, none⟩ = some (.int .u64 0) := by rw [cell_of_row R4]; rfl
      have hg1 : wr.cell? ⟨gR, 1, none⟩ = some (.int .u64 0) := by rw [cell_of_row R4]; rfl
      have hg2 : wr.cell? ⟨gR, 2, none⟩ = some (.int .u64 0) := by rw [cell_of_row R4]; rfl
      have hg3 : wr.cell? ⟨gR, 3, none⟩ = some (.int .u64 0) := by rw [cell_of_row R4]; rfl
      have hc0 : wr.cell? ⟨gO, 0, none⟩ = some (.int .u64 d0) := by rw [cell_of_row O4]; rfl
      have hc1 : wr.cell? ⟨gO, 1, none⟩ = some (.int .u64 d1) := by rw [cell_of_row O4]; rfl
      have hc2 : wr.cell? ⟨gO, 2, none⟩ = some (.int .u64 d2) := by rw [cell_of_row O4]; rfl
      have hc3 : wr.cell? ⟨gO, 3, none⟩ = some (.int .u64 d3) := by rw [cell_of_row O4]; rfl
      have BZ : Hid (Below w.heap.size w ((((wr.setCell ⟨gR, 0, none⟩ (.int .u64 d0)).setCell ⟨gR, 1, none⟩ (.int .u64 d1)).setCell ⟨gR, 2, none⟩ (.int .u64 d2)).setCell ⟨gR, 3, none⟩ (.int .u64 d3))) := (((BF.out.setCell GL _).setCell GL _).setCell GL _).setCell GL _
      have LD : Hid ((loadVar 115 ⟨gR, 0, none⟩).run Tryz.prog ((((wr.setCell ⟨gR, 0, none⟩ (.int .u64 d0)).setCell ⟨gR, 1, none⟩ (.int .u64 d1)).setCell ⟨gR, 2, none⟩ (.int .u64 d2)).setCell ⟨gR, 3, none⟩ (.int .u64 d3)) = .ok (.agg #[.int .u64 d0, .int .u64 d1, .int .u64 d2, .int .u64 d3]) ((((wr.setCell ⟨gR, 0, none⟩ (.int .u64 d0)).setCell ⟨gR, 1, none⟩ (.int .u64 d1)).setCell ⟨gR, 2, none⟩ (.int .u64 d2)).setCell ⟨gR, 3, none⟩ (.int .u64 d3))) := big_load (box4_set R4)
      clear R4 O4 OR GL hlt
      go_wp2_with fail
      (try simp only [Exit.inBlock, Exit.then])
      refine bodyPost_ret (v := .agg #[.int .u64 d0, .int .u64 d1, .int .u64 d2, .int .u64 d3]) ?_ rfl ⟨?_, BZ.out⟩
      · rw [results_cell1 rfl]
        exact LD.out
      · rw [← HBA.out]
        rfl
end Go.Proofs.YtecbnhmnhcpcmaaGreatDoor
/-! The walks of the reference's numbers of 128 bits: Small, Sum. -/
namespace Go.Proofs.YtecbnhmnhcpcmaaGreatDoor
open Go.RowKit Go.WideMaps Go.Maps
set_option linter.unusedVariables false
set_option linter.unusedSimpArgs false
set_option maxRecDepth 100000
theorem infoU64 : (Tryz.prog.info? 23).map (fun i => (i.zero, i.size, i.bytes)) = some (some (.int .u64 0), 1, 8) := by kernel_rfl
theorem cellsU64 : Tryz.prog.cellsOf 23 = 1 := by kernel_rfl
theorem range4 : List.range 4 = [0, 1, 2, 3] := rfl
set_option maxHeartbeats 1000000 in
theorem neq_bigs (a b : Bg) (w : World) : (binOp .neq 115 (.agg #[.int .u64 a.d0, .int .u64 a.d1, .int .u64 a.d2, .int .u64 a.d3]) (.agg #[.int .u64 b.d0, .int .u64 b.d1, .int .u64 b.d2, .int .u64 b.d3])).run Tryz.prog w = .ok (.bool (decide (¬ (a.d0 = b.d0 ∧ a.d1 = b.d1 ∧ a.d2 = b.d2 ∧ a.d3 = b.d3)))) w := by
  obtain ⟨i0, hi, hz0, hz1, hz2⟩ := info_parts infoU64
  rw [run_neq_struct, run_equalIn_array w 9999 _ _ Tryz.underlying115 hi, cellsU64, range4]
  obtain ⟨a0, a1, a2, a3⟩ := a
  obtain ⟨b0, b1, b2, b3⟩ := b
  dsimp only
  by_cases h0 : a0 = b0 <;> by_cases h1 : a1 = b1 <;> by_cases h2 : a2 = b2 <;> by_cases h3 : a3 = b3 <;>
    simp [go_sem, Op.eqItems, h0, h1, h2, h3] <;> (intros; omega)
/-- as a number of 64 bits, if it is one -/
def sameG (a b : Bg) : Bool := decide (a.d0 = b.d0 ∧ a.d1 = b.d1 ∧ a.d2 = b.d2 ∧ a.d3 = b.d3)
theorem sameG_iff {a b : Bg} : sameG a b = true ↔ a = b := by
  obtain ⟨a0, a1, a2, a3⟩ := a
  obtain ⟨b0, b1, b2, b3⟩ := b
  unfold sameG
  rw [decide_eq_true_eq, Bg.mk.injEq]
def smallB (b : Bg) : Bool := sameG (bgOf (bgLow b)) b
theorem neq_bigs2 {a b : Bg} {c : Bool} (h : sameG a b = c) (w : World) : (binOp .neq 115 (.agg #[.int .u64 a.d0, .int .u64 a.d1, .int .u64 a.d2, .int .u64 a.d3]) (.agg #[.int .u64 b.d0, .int .u64 b.d1, .int .u64 b.d2, .int .u64 b.d3])).run Tryz.prog w = .ok (.bool (!c)) w := by
  rw [neq_bigs, ← h]
  unfold sameG
  by_cases hp : a.d0 = b.d0 ∧ a.d1 = b.d1 ∧ a.d2 = b.d2 ∧ a.d3 = b.d3
  · rw [decide_eq_true hp, decide_eq_false (fun h => h hp)]; rfl
  · rw [decide_eq_false hp, decide_eq_true hp]; rfl
set_option maxHeartbeats 1000000 in
theorem bsmall_any (b : Bg) (w : World) (hb : b.ok) : Calls Tryz.prog 60 #[.agg b.cells] w fun e w' => e = .returned (.tuple #[.int .i64 (if smallB b = true then bgLow b else 0), .bool (smallB b)]) ∧ Below w.heap.size w w' := by
  obtain ⟨w1, hw1⟩ : ∃ W, W = w.alloc (.cells b.cells 115) := ⟨_, rfl⟩
  have hb1 : Below w.heap.size w w1 := by rw [hw1]; exact below_alloc _ _
  have O1 : w1.heap[w.heap.size]? = some (.cells b.cells 115 (0, 0)) := by rw [hw1]; exact alloc_block _ _ _ _
  have B1 := Lib.hid hb1
  have HLI := Lib.hid (bgLow_in b)
  obtain ⟨hd0, hd1, -, -⟩ := hb
  have HL : Hid (bgLow b = wrap64 ((b.d0 + b.d1 * 4294967296 : Nat) : Int)) := rfl
  obtain ⟨sb, hsb⟩ : ∃ s, s = smallB b := ⟨_, rfl⟩
  have HSB : Hid (sameG (bgOf (bgLow b)) b = sb) := hsb.symm
  rw [← hsb]
  clear hb1 hsb
  generalize bgLow b = x at *
  obtain ⟨⟨e0, e1, e2, e3⟩, he⟩ : ∃ r, r = bgOf x := ⟨_, rfl⟩
  have OX : Hid (∀ W, Calls Tryz.prog 59 #[.int .i64 x] W fun e w' => e = .returned (.agg #[.int .u64 e0, .int .u64 e1, .int .u64 e2, .int .u64 e3]) ∧ Below W.heap.size W w') := fun W => by
    have := bof_any x W HLI.out
    rw [← he] at this
    exact this
  rw [← he] at HSB
  clear he
  obtain ⟨b0, b1, b2, b3⟩ := b
  dsimp only at hd0 hd1 HL
  have NQ := fun (W : World) => neq_bigs2 HSB.out W
  dsimp only at NQ
  have c0 : w1.cell? ⟨w.heap.size, 0, none⟩ = some (.int .u64 b0) := by rw [cell_of_row O1]; rfl
  have c1 : w1.cell? ⟨w.heap.size, 1, none⟩ = some (.int .u64 b1) := by rw [cell_of_row O1]; rfl
  have c2 : w1.cell? ⟨w.heap.size, 2, none⟩ = some (.int .u64 b2) := by rw [cell_of_row O1]; rfl
  have c3 : w1.cell? ⟨w.heap.size, 3, none⟩ = some (.int .u64 b3) := by rw [cell_of_row O1]; rfl
  have HX : wrap64 ((b0 : Int) + (b1 : Int) * 4294967296) = x := by rw [HL.out]; unfold wrap64; omega
  have KX : Hid (∀ W, Below w1.heap.size w1 W → W.cell? ⟨w.heap.size, 0, none⟩ = some (.int .u64 b0) ∧ W.cell? ⟨w.heap.size, 1, none⟩ = some (.int .u64 b1) ∧ W.cell? ⟨w.heap.size, 2, none⟩ = some (.int .u64 b2) ∧ W.cell? ⟨w.heap.size, 3, none⟩ = some (.int .u64 b3)) := by
    have q0 := c0; have q1 := c1; have q2 := c2; have q3 := c3
    exact fun W hb => ⟨stays hb q0, stays hb q1, stays hb q2, stays hb q3⟩
  clear O1 HSB HLI HL
  go_enter Tryz.func60, Tryz.ntmps60
  go_upto_region 1 with fail
  rw [← hw1]
  clear hw1
  go_upto_region 2 with fail
  refine wp_region_held_drew (S := (fun W => W.cell? ⟨w.heap.size, 0, none⟩ = some (.int .u64 b0) ∧ W.cell? ⟨w.heap.size, 1, none⟩ = some (.int .u64 b1) ∧ W.cell? ⟨w.heap.size, 2, none⟩ = some (.int .u64 b2) ∧ W.cell? ⟨w.heap.size, 3, none⟩ = some (.int .u64 b3))) (by kernel_rfl) ?_ (fun hHeld => ?_)
  · (try dsimp only)
    exact KX.out _ (Below.refl _ _).drew
  refine Plan.start (plan := [0, 2]) (fuel := 2) (by decide +kernel) (by assumption) ?_
  refine Plan.free (i := 0) (ds := some 12) (v := ?_) rfl rfl rfl ?_ (fun _ _ _ h => h) ?_
  rotate_left
  · (intro w hSw; (try dsimp only at hSw); go_simp; first | done | with_reducible rfl)
  (try simp only [Act.put, List.setIfInBounds_toArray, List.set_cons_zero, List.set_cons_succ])
  refine Plan.free (i := 2) (ds := some 14) (v := ?_) rfl rfl rfl ?_ (fun _ _ _ h => h) ?_
  rotate_left
  · (intro w hSw; (try dsimp only at hSw); go_simp; first | done | with_reducible rfl)
  (try simp only [Act.put, List.setIfInBounds_toArray, List.set_cons_zero, List.set_cons_succ])
  refine Plan.stop (fun hHeld => ?_)
  refine wpAnyH_ready (rs := [1]) (by decide +kernel) (by simp) ?_
  refine AllReadyH.cons (o := _) rfl ?_ AllReadyH.nil
  intro K hK
  rw [if_pos (wanted_none (by rfl))]
  (go_simp; go_at_call 59; refine (OX.out _).mono ?_; rintro e w3 ⟨rfl, hb⟩; have B3 : Hid (Below w1.heap.size w1 w3) := onward hb ((Below.refl _ _).drew); clear hb)
  refine hK.out _ _ ?_ (fun hHeld => ?_)
  · (try dsimp only)
    exact KX.out _ B3.out
  clear hK K
  (try simp only [Act.put, List.setIfInBounds_toArray, List.set_cons_zero, List.set_cons_succ])
  refine Plan.start (plan := [3]) (fuel := 0) (by decide +kernel) (by assumption) ?_
  refine Plan.free (i := 3) (ds := some 15) (v := ?_) rfl rfl rfl ?_ (fun _ _ _ h => h) ?_
  rotate_left
  · (intro w hSw; (try dsimp only at hSw); go_simp; first | done | with_reducible rfl)
  (try simp only [Act.put, List.setIfInBounds_toArray, List.set_cons_zero, List.set_cons_succ])
  refine Plan.stop (fun hHeld => ?_)
  refine wpAnyH_done (by decide +kernel) ?_ _
  clear NQ OX hHeld
  cases sb
  · go_wp2_with fail
    go_ret2
    exact ⟨rfl, onward B3.out B1.out⟩
  · go_wp2_with fail
    go_ret2
    exact ⟨rfl, onward B3.out B1.out⟩
end Go.Proofs.YtecbnhmnhcpcmaaGreatDoor
