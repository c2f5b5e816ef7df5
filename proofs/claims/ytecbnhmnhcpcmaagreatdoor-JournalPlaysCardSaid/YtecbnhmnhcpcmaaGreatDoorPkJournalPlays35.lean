/- The walk of the reference's sum of a list. (Printed by gen_jpe.py.) -/
import Derived.Test.YtecbnhmnhcpcmaaGreatDoorPkJournalPlays34
/-! The walk of the reference's sum of a list. (Printed by gen_jpe.py.) -/
namespace Go.Proofs.YtecbnhmnhcpcmaaGreatDoor
open Go.RowKit Go.WideMaps Go.Maps
set_option linter.unusedVariables false
set_option linter.unusedSimpArgs false
set_option maxRecDepth 100000
theorem bg_step (l : List Int) (k : Nat) (x : Int) (h : l[k]? = some x) : bgSum bgZero (l.take (k + 1)) = bgAdd (bgSum bgZero (l.take k)) (bgOf x) := by
  unfold bgSum
  rw [List.take_add_one, h, List.foldl_append]
  rfl
theorem small_sum {l : List Int} (hl : ∀ a ∈ l, Acct.inInt a) (hn : l.length < 1000000) : (smallB (bgSum bgZero l) = true → sumE l = (bgLow (bgSum bgZero l), 0)) ∧ (smallB (bgSum bgZero l) = false → sumE l = (0, 30)) := by
  obtain ⟨h1, h2⟩ := bgSum_small hl hn
  unfold smallB sumE
  constructor
  · intro h
    have h3 := sameG_iff.1 h
    by_cases hi : Acct.inInt l.sum
    · rw [if_pos (show -9223372036854775808 ≤ l.sum ∧ l.sum ≤ 9223372036854775807 from hi), (h1 hi).2]
    · exact absurd h3 (h2 hi)
  · intro h
    by_cases hi : Acct.inInt l.sum
    · rw [sameG_iff.2 (h1 hi).1] at h
      cases h
    · rw [if_neg (show ¬ (-9223372036854775808 ≤ l.sum ∧ l.sum ≤ 9223372036854775807) from hi)]
theorem zero_ok : bgZero.ok := by unfold Bg.ok bgZero; decide
set_option maxHeartbeats 1000000 in
theorem rsum_any (v : Value) (l : List Int) (w : World) (hI : IntsAt w v l) (hn : l.length < 1000000) (hl : ∀ a ∈ l, Acct.inInt a) : Calls Tryz.prog 39 #[v] w fun e w' => e = .returned (.tuple #[.int .i64 (sumE l).1, .int .i64 (sumE l).2]) ∧ Below w.heap.size w w' := by
  have HI := Lib.hid hI
  have HLI := Lib.hid hl
  have HN := Lib.hid hn
  have HSM := Lib.hid (small_sum hl hn)
  obtain ⟨a, c, rfl, -⟩ := hI
  obtain ⟨w1, hw1⟩ : ∃ W, W = w.alloc (.cells #[.int .u64 0, .int .u64 0, .int .u64 0, .int .u64 0] 115) := ⟨_, rfl⟩
  have hb1 : Below w.heap.size w w1 := by rw [hw1]; exact below_alloc _ _
  have O1 : Hid (w1.heap[w.heap.size]? = some (.cells bgZero.cells 115 (0, 0))) := by rw [hw1]; exact alloc_block _ _ _ _
  have B1 := Lib.hid hb1
  clear hl hn hb1
  go_enter Tryz.func39, Tryz.ntmps39
  go_wp2_with fail
  rw [← hw1]
  clear hw1
  go_loopw [5] (fun iv wr => ∃ k : Nat, k ≤ l.length ∧ iv = .int .i64 k ∧ Hid (wr.heap[w.heap.size]? = some (.cells (bgSum bgZero (l.take k)).cells 115 (0, 0))) ∧ Hid (Below w.heap.size w wr)) (fun iv _ => l.length - (intOf iv).toNat)
  case atStart => exact ⟨0, by omega, rfl, O1.out, B1.out⟩
  case round =>
    obtain ⟨k, hk, rfl, OR, BR⟩ := hrel
    by_cases hlt : k < l.length
    · have hz : (k : Int) < (l.length : Int) := by omega
      obtain ⟨g, o, rfl, y0⟩ := (HI.out.below BR.out).cell k hlt
      have hx := HLI.out l[k] (List.getElem_mem hlt)
      have HST := Lib.hid (bg_step l k l[k] (List.getElem?_eq_getElem hlt))
      have hok := bgSum_ok (l.take k) bgZero zero_ok
      generalize l[k] = x at *
      generalize bgSum bgZero (l.take k) = s at *
      obtain ⟨⟨t0, t1, t2, t3⟩, ht⟩ : ∃ r, r = bgAdd s (bgOf x) := ⟨_, rfl⟩
      rw [← ht] at HST
      obtain ⟨s0, s1, s2, s3⟩ := s
      have AX : Hid (∀ W, Calls Tryz.prog 58 #[.agg #[.int .u64 s0, .int .u64 s1, .int .u64 s2, .int .u64 s3], .agg (bgOf x).cells] W fun e w' => e = .returned (.agg #[.int .u64 t0, .int .u64 t1, .int .u64 t2, .int .u64 t3]) ∧ Below W.heap.size W w') := fun W => by
        have := badd_any ⟨s0, s1, s2, s3⟩ (bgOf x) W hok (bgOf_ok x hx)
        rw [← ht] at this
        exact this
      have FX : Hid (∀ W, Calls Tryz.prog 59 #[.int .i64 x] W fun e w' => e = .returned (.agg (bgOf x).cells) ∧ Below W.heap.size W w') := fun W => bof_any x W hx
      have hr := OR.out
      have c0 : wr.cell? ⟨w.heap.size, 0, none⟩ = some (.int .u64 s0) := by rw [cell_of_row hr]; rfl
      have c1 : wr.cell? ⟨w.heap.size, 1, none⟩ = some (.int .u64 s1) := by rw [cell_of_row hr]; rfl
      have c2 : wr.cell? ⟨w.heap.size, 2, none⟩ = some (.int .u64 s2) := by rw [cell_of_row hr]; rfl
      have c3 : wr.cell? ⟨w.heap.size, 3, none⟩ = some (.int .u64 s3) := by rw [cell_of_row hr]; rfl
      have KX : Hid (∀ W, Below wr.heap.size wr W → W.cell? ⟨w.heap.size, 0, none⟩ = some (.int .u64 s0) ∧ W.cell? ⟨w.heap.size, 1, none⟩ = some (.int .u64 s1) ∧ W.cell? ⟨w.heap.size, 2, none⟩ = some (.int .u64 s2) ∧ W.cell? ⟨w.heap.size, 3, none⟩ = some (.int .u64 s3) ∧ W.cell? ⟨g, o + k, none⟩ = some (.int .i64 x)) := by
        have q0 := c0; have q1 := c1; have q2 := c2; have q3 := c3; have q4 := y0
        exact fun W hb => ⟨stays hb q0, stays hb q1, stays hb q2, stays hb q3, stays hb q4⟩
      have HR := Lib.hid hr
      generalize bgOf x = bx at *
      clear hr hok hx ht c0 c1 c2 c3 y0 OR
      go_upto_region 5 with fail
      refine UpTo.start (z := 7) (C := (fun W => W.cell? ⟨w.heap.size, 0, none⟩ = some (.int .u64 s0) ∧ W.cell? ⟨w.heap.size, 1, none⟩ = some (.int .u64 s1) ∧ W.cell? ⟨w.heap.size, 2, none⟩ = some (.int .u64 s2) ∧ W.cell? ⟨w.heap.size, 3, none⟩ = some (.int .u64 s3) ∧ W.cell? ⟨g, o + k, none⟩ = some (.int .i64 x))) (by kernel_rfl) ?_ (fun hHeld => ?_)
      · (try dsimp only)
        exact KX.out _ (Below.refl _ _).drew
      refine PlanZ.start (plan := [0, 1, 2, 3, 4]) (fuel := 3) (by decide +kernel) (by assumption) ?_
      refine PlanZ.free (i := 0) (ds := some 14) (v := ?_) rfl rfl rfl ?_ (fun _ _ _ h => h) ?_
      rotate_left
      · (intro w hSw; (try dsimp only at hSw); go_simp; first | done | with_reducible rfl)
      (try simp only [Act.put, List.setIfInBounds_toArray, List.set_cons_zero, List.set_cons_succ])
      refine PlanZ.free (i := 1) (ds := some 15) (v := ?_) rfl rfl rfl ?_ (fun _ _ _ h => h) ?_
      rotate_left
      · (intro w hSw; (try dsimp only at hSw); go_simp; first | done | with_reducible rfl)
      (try simp only [Act.put, List.setIfInBounds_toArray, List.set_cons_zero, List.set_cons_succ])
      refine PlanZ.free (i := 2) (ds := some 16) (v := ?_) rfl rfl rfl ?_ (fun _ _ _ h => h) ?_
      rotate_left
      · (intro w hSw; (try dsimp only at hSw); go_simp; first | done | with_reducible rfl)
      (try simp only [Act.put, List.setIfInBounds_toArray, List.set_cons_zero, List.set_cons_succ])
      refine PlanZ.free (i := 3) (ds := some 17) (v := ?_) rfl rfl rfl ?_ (fun _ _ _ h => h) ?_
      rotate_left
      · (intro w hSw; (try dsimp only at hSw); go_simp; first | done | with_reducible rfl)
      (try simp only [Act.put, List.setIfInBounds_toArray, List.set_cons_zero, List.set_cons_succ])
      refine PlanZ.free (i := 4) (ds := some 18) (v := ?_) rfl rfl rfl ?_ (fun _ _ _ h => h) ?_
      rotate_left
      · (intro w hSw; (try dsimp only at hSw); go_simp; first | done | with_reducible rfl)
      (try simp only [Act.put, List.setIfInBounds_toArray, List.set_cons_zero, List.set_cons_succ])
      refine PlanZ.stop (fun hHeld => ?_)
      refine UpTo.ready (rs := [5]) (by decide +kernel) (by simp) ?_
      refine AllZ.cons (o := _) rfl ?_ AllZ.nil
      intro K hK
      rw [if_pos (wanted_none (by rfl))]
      (go_simp; go_at_call 59; refine (FX.out _).mono ?_; rintro e w3 ⟨rfl, hb⟩; have B3 : Hid (Below wr.heap.size wr w3) := onward hb ((Below.refl _ _).drew); clear hb)
      refine hK.out _ _ ?_ (fun hHeld => ?_)
      · (try dsimp only)
        exact KX.out _ B3.out
      clear hK K
      (try simp only [Act.put, List.setIfInBounds_toArray, List.set_cons_zero, List.set_cons_succ])
      refine UpTo.ready (rs := [6]) (by decide +kernel) (by simp) ?_
      refine AllZ.cons (o := _) rfl ?_ AllZ.nil
      intro K hK
      rw [if_pos (wanted_none (by rfl))]
      (go_simp; go_at_call 58; refine (AX.out _).mono ?_; rintro e w4 ⟨rfl, hb⟩; have B4 : Hid (Below wr.heap.size wr w4) := onward hb B3.out; clear hb)
      refine hK.out _ _ ?_ (fun hHeld => ?_)
      · (try dsimp only)
        exact KX.out _ B4.out
      clear hK K
      (try simp only [Act.put, List.setIfInBounds_toArray, List.set_cons_zero, List.set_cons_succ])
      refine UpTo.ready (rs := [7]) (by decide +kernel) (by simp) ?_
      refine AllZ.last (o := _) rfl ?_
      intro K hK
      rw [if_pos (wanted_none (by rfl))]
      (have h4 := stays_block B4.out HR.out; have hf0 : w4.frozen? ⟨w.heap.size, 0, none⟩ = false := free_of_row h4; have hf1 : w4.frozen? ⟨w.heap.size, 1, none⟩ = false := free_of_row h4; have hf2 : w4.frozen? ⟨w.heap.size, 2, none⟩ = false := free_of_row h4; have hf3 : w4.frozen? ⟨w.heap.size, 3, none⟩ = false := free_of_row h4; obtain ⟨z0, z1, z2, z3, -⟩ := KX.out _ B4.out; have H4 := Lib.hid h4; clear h4; go_simp)
      refine hK.out _ _ ?_
      clear hK K
      (try simp only [Act.put, List.setIfInBounds_toArray, List.set_cons_zero, List.set_cons_succ])
      refine UpTo.done (by decide +kernel) ?_ _
      clear hf0 hf1 hf2 hf3 z0 z1 z2 z3
      have BN : Hid (Below w.heap.size w ((((w4.setCell ⟨w.heap.size, 0, none⟩ (.int .u64 t0)).setCell ⟨w.heap.size, 1, none⟩ (.int .u64 t1)).setCell ⟨w.heap.size, 2, none⟩ (.int .u64 t2)).setCell ⟨w.heap.size, 3, none⟩ (.int .u64 t3))) := ((((onward B4.out BR.out).setCell (Nat.le_refl _) _).setCell (Nat.le_refl _) _).setCell (Nat.le_refl _) _).setCell (Nat.le_refl _) _
      have ON : Hid (((((w4.setCell ⟨w.heap.size, 0, none⟩ (.int .u64 t0)).setCell ⟨w.heap.size, 1, none⟩ (.int .u64 t1)).setCell ⟨w.heap.size, 2, none⟩ (.int .u64 t2)).setCell ⟨w.heap.size, 3, none⟩ (.int .u64 t3)).heap[w.heap.size]? = some (.cells (bgSum bgZero (l.take (k + 1))).cells 115 (0, 0))) := by
        rw [HST.out]
        exact box4_set H4.out
      have hnn := HN.out
      go_wp2_with fail
      go_roundw
      case rel => exact ⟨k + 1, by omega, by go_num, ON.out, BN.out⟩
      case measure => simp [intOf]; omega
    · have dk : decide ((k : Int) < ((l.length : Nat) : Int)) = false := decide_eq_false (by omega)
      have hr := OR.out
      rw [List.take_of_length_le (by omega)] at hr
      have HSM2 := HSM.out
      have hok := bgSum_ok l bgZero zero_ok
      generalize bgSum bgZero l = s at *
      have SX := Lib.hid (bsmall_any s wr hok)
      generalize smallB s = sb at *
      generalize bgLow s = x at *
      obtain ⟨s0, s1, s2, s3⟩ := s
      have c0 : wr.cell? ⟨w.heap.size, 0, none⟩ = some (.int .u64 s0) := by rw [cell_of_row hr]; rfl
      have c1 : wr.cell? ⟨w.heap.size, 1, none⟩ = some (.int .u64 s1) := by rw [cell_of_row hr]; rfl
      have c2 : wr.cell? ⟨w.heap.size, 2, none⟩ = some (.int .u64 s2) := by rw [cell_of_row hr]; rfl
      have c3 : wr.cell? ⟨w.heap.size, 3, none⟩ = some (.int .u64 s3) := by rw [cell_of_row hr]; rfl
      clear hr hok OR HSM
      cases sb
      · have HSE := Lib.hid (HSM2.2 rfl)
        clear HSM2
        go_wp2_with fail
        refine SX.out.mono ?_
        rintro e w3 ⟨rfl, hb⟩
        have B3 := Lib.hid (onward hb BR.out)
        clear hb SX c0 c1 c2 c3
        go_wp2_with fail
        go_ret2
        exact ⟨by rw [HSE.out]; rfl, B3.out⟩
      · have HSE := Lib.hid (HSM2.1 rfl)
        clear HSM2
        go_wp2_with fail
        refine SX.out.mono ?_
        rintro e w3 ⟨rfl, hb⟩
        have B3 := Lib.hid (onward hb BR.out)
        clear hb SX c0 c1 c2 c3
        go_wp2_with fail
        go_ret2
        exact ⟨by rw [HSE.out]; rfl, B3.out⟩
end Go.Proofs.YtecbnhmnhcpcmaaGreatDoor
