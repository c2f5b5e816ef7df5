/- The walk of the reference's May. -/
import Derived.Test.YtmppkhjjlgngkaaGreatDoorRnL
import Derived.Test.YtmppkhjjlgngkaaGreatDoorCivR
namespace Go.Proofs.YtmppkhjjlgngkaaGreatDoor
open Go.RowKit Civ Ren Go.Shelf
set_option linter.unusedVariables false
set_option linter.unusedSimpArgs false
set_option maxHeartbeats 8000000 in
set_option maxRecDepth 1000000 in
theorem mayR_any (v : Ren.Inv) (lv : Value) (w : World) (hok : v.ok) (hl : RowsIn w lv 5 (v.ls.map Ren.Ln.cells)) : Calls Tryz.prog 5 #[v.val lv] w fun e w' => e = .returned (.bool (mayB v)) ∧ Below w.heap.size w w' := by
  obtain ⟨no, te, mo, ls, tot, cr⟩ := v
  simp only [Ren.Inv.val]
  obtain ⟨a, c, rfl, h1, h2⟩ := rows_form hl
  simp only [List.length_map] at hl h1 ⊢
  obtain ⟨⟨ok1, -⟩, ⟨ok2, -⟩, -, -, -, -⟩ := hok
  dsimp only at ok1 ok2
  have HL := Lib.hid hl
  unfold maxLen at h2
  have B0 := Lib.hid (below_alloc w (.cells #[.int .u32 no, .int .u32 te, .int .i64 mo, .slice a ls.length c, .int .i64 tot, .int .i64 cr] 25))
  have G0 := Lib.hid (heap_alloc_new w (.cells #[.int .u32 no, .int .u32 te, .int .i64 mo, .slice a ls.length c, .int .i64 tot, .int .i64 cr] 25))
  clear hl
  by_cases q : no = 0
  · have HV : mayB ⟨no, te, mo, ls, tot, cr⟩ = false := by unfold mayB; simp; omega
    rw [HV]
    clear HV
    have hq : (no == 0) = true := by simpa using q
    go_enter Tryz.func5, Tryz.ntmps5
    go_wp2_with fail
    go_ret
    exact ⟨rfl, below_alloc _ _⟩
  have hq1 : (no == 0) = false := by simpa using q
  have z0 := q
  clear q
  by_cases q : te = 0
  · have HV : mayB ⟨no, te, mo, ls, tot, cr⟩ = false := by unfold mayB; simp; omega
    rw [HV]
    clear HV
    have hq : (te == 0) = true := by simpa using q
    go_enter Tryz.func5, Tryz.ntmps5
    go_wp2_with fail
    go_ret
    exact ⟨rfl, below_alloc _ _⟩
  have hq2 : (te == 0) = false := by simpa using q
  have z1 := q
  clear q
  by_cases q : (mo < 12 ∨ 120000 ≤ mo)
  · have HV : mayB ⟨no, te, mo, ls, tot, cr⟩ = false := by unfold mayB; simp; omega
    rw [HV]
    clear HV
    have hq : lenM mo = 0 := lenM_no q
    go_enter Tryz.func5, Tryz.ntmps5
    go_wp2_with fail
    refine (rlength_any mo _).mono ?_
    rintro e w2 ⟨rfl, rfl⟩
    go_wp2_with fail
    go_ret
    exact ⟨rfl, below_alloc _ _⟩
  have hq3 : (lenM mo == 0) = false := by have := lenM_bd mo (by omega) (by omega); simp; omega
  have z2 := q
  clear q
  by_cases q : 28 < (ls.length : Int)
  · have HV : mayB ⟨no, te, mo, ls, tot, cr⟩ = false := by unfold mayB; simp; omega
    rw [HV]
    clear HV
    go_enter Tryz.func5, Tryz.ntmps5
    go_wp2_with fail
    refine (rlength_any mo _).mono ?_
    rintro e w2 ⟨rfl, rfl⟩
    go_wp2_with fail
    go_ret
    exact ⟨rfl, below_alloc _ _⟩
  have z3 := q
  clear q
  by_cases q : tot < 0
  · have HV : mayB ⟨no, te, mo, ls, tot, cr⟩ = false := by unfold mayB; simp; omega
    rw [HV]
    clear HV
    go_enter Tryz.func5, Tryz.ntmps5
    go_wp2_with fail
    refine (rlength_any mo _).mono ?_
    rintro e w2 ⟨rfl, rfl⟩
    go_wp2_with fail
    go_ret
    exact ⟨rfl, below_alloc _ _⟩
  have z4 := q
  clear q
  by_cases q : cr < 0
  · have HV : mayB ⟨no, te, mo, ls, tot, cr⟩ = false := by unfold mayB; simp; omega
    rw [HV]
    clear HV
    go_enter Tryz.func5, Tryz.ntmps5
    go_wp2_with fail
    refine (rlength_any mo _).mono ?_
    rintro e w2 ⟨rfl, rfl⟩
    go_wp2_with fail
    go_ret
    exact ⟨rfl, below_alloc _ _⟩
  have z5 := q
  clear q
  have hM : mayB ⟨no, te, mo, ls, tot, cr⟩ = ls.all lnB := by
    unfold mayB
    have : decide (0 < no ∧ 0 < te ∧ 12 ≤ mo ∧ mo < 120000 ∧ ls.length ≤ 28 ∧ 0 ≤ tot ∧ 0 ≤ cr) = true := by simp; omega
    simp only [this, Bool.and_true]
  rw [hM]
  clear hM
  go_enter Tryz.func5, Tryz.ntmps5
  go_wp2_with fail
  refine (rlength_any mo _).mono ?_
  rintro e w2 ⟨rfl, rfl⟩
  go_wp2_with fail
  generalize w.alloc (.cells #[.int .u32 no, .int .u32 te, .int .i64 mo, .slice a ls.length c, .int .i64 tot, .int .i64 cr] 25) = W0 at *
  go_loopw [3] (fun i wr => ∃ k : Nat, k ≤ ls.length ∧ i = .int .i64 k ∧ Hid ((ls.take k).all lnB = true) ∧ Hid (Below W0.heap.size W0 wr)) (fun i _ => ls.length - (intOf i).toNat)
  case atStart => exact ⟨0, by omega, rfl, rfl, Below.refl _ _⟩
  case round =>
    obtain ⟨k, hk, rfl, HA, BR⟩ := hrel
    obtain ⟨-, -, -, -, x3, -, -⟩ := cells6 (stays_block BR.out G0.out)
    by_cases hlt : k < ls.length
    · obtain ⟨q, o, rfl, p0, p1, p2, p3, p4⟩ := ln_cells (HL.out.below (onward BR.out B0.out)) k hlt
      have hz : (k : Int) < ls.length := by omega
      have HS : Hid ((ls.take (k + 1)).all lnB = ((ls.take k).all lnB && lnB ls[k])) := by
        show _ = _
        rw [List.take_succ_eq_append_getElem hlt, List.all_append]
        simp
      have HF : Hid (lnB ls[k] = false → ls.all lnB = false) := fun h => List.all_eq_false.2 ⟨ls[k], List.getElem_mem hlt, by rw [h]; decide⟩
      generalize ls[k] = l at *
      obtain ⟨kk, p, d, u, am⟩ := l
      dsimp only at p0 p1 p2 p3 p4
      have hx : d < 0 ∨ (0 ≤ d ∧ u < 0) ∨ (0 ≤ d ∧ 0 ≤ u ∧ am < 0) ∨ (0 ≤ d ∧ 0 ≤ u ∧ 0 ≤ am ∧ kk < 1) ∨ (0 ≤ d ∧ 0 ≤ u ∧ 0 ≤ am ∧ 3 < kk) ∨ (0 ≤ d ∧ 0 ≤ u ∧ 0 ≤ am ∧ (kk = 1 ∨ kk = 2 ∨ kk = 3)) := by omega
      rcases hx with hx | hx | hx | hx | hx | ⟨g1, g2, g3, hx⟩
      iterate 5
        · have hf := HF.out (by unfold lnB; simp; omega)
          have HF2 := Lib.hid hf
          clear hf HF HS
          go_wp2_with fail
          go_ret
          exact ⟨by rw [HF2.out]; first | done | rfl, onward (onward (below_alloc _ _) BR.out) B0.out⟩
      rcases hx with rfl | rfl | rfl
      · by_cases eu : u = 0
        case neg =>
          have hb : (u == 0) = false := by simpa using eu
          have hf := HF.out (by unfold lnB; simp; omega)
          have HF2 := Lib.hid hf
          clear hf HF HS
          go_wp2_with fail
          go_ret
          exact ⟨by rw [HF2.out]; first | done | rfl, onward (onward (below_alloc _ _) BR.out) B0.out⟩
        have HA2 : Hid ((ls.take (k + 1)).all lnB = true) := by
          show _ = _
          rw [HS.out, HA.out]
          unfold lnB
          simp
          omega
        clear HS HF
        go_wp2_with fail
        go_roundw
        case rel => exact ⟨k + 1, by omega, by go_num, HA2, onward (below_alloc _ _) BR.out⟩
        case measure => simp [intOf]; omega
      · by_cases ep : p = 0
        case neg =>
          have hb : (p == 0) = false := by simpa using ep
          have hf := HF.out (by unfold lnB; simp; omega)
          have HF2 := Lib.hid hf
          clear hf HF HS
          go_wp2_with fail
          go_ret
          exact ⟨by rw [HF2.out]; first | done | rfl, onward (onward (below_alloc _ _) BR.out) B0.out⟩
        by_cases ed : d = 0
        case neg =>
          have hb : (d == 0) = false := by simpa using ed
          have hf := HF.out (by unfold lnB; simp; omega)
          have HF2 := Lib.hid hf
          clear hf HF HS
          go_wp2_with fail
          go_ret
          exact ⟨by rw [HF2.out]; first | done | rfl, onward (onward (below_alloc _ _) BR.out) B0.out⟩
        by_cases eam : am = 0
        case neg =>
          have hb : (am == 0) = false := by simpa using eam
          have hf := HF.out (by unfold lnB; simp; omega)
          have HF2 := Lib.hid hf
          clear hf HF HS
          go_wp2_with fail
          go_ret
          exact ⟨by rw [HF2.out]; first | done | rfl, onward (onward (below_alloc _ _) BR.out) B0.out⟩
        have HA2 : Hid ((ls.take (k + 1)).all lnB = true) := by
          show _ = _
          rw [HS.out, HA.out]
          unfold lnB
          simp
          omega
        clear HS HF
        go_wp2_with fail
        go_roundw
        case rel => exact ⟨k + 1, by omega, by go_num, HA2, onward (below_alloc _ _) BR.out⟩
        case measure => simp [intOf]; omega
      · by_cases ed : d = 0
        case neg =>
          have hb : (d == 0) = false := by simpa using ed
          have hf := HF.out (by unfold lnB; simp; omega)
          have HF2 := Lib.hid hf
          clear hf HF HS
          go_wp2_with fail
          go_ret
          exact ⟨by rw [HF2.out]; first | done | rfl, onward (onward (below_alloc _ _) BR.out) B0.out⟩
        have HA2 : Hid ((ls.take (k + 1)).all lnB = true) := by
          show _ = _
          rw [HS.out, HA.out]
          unfold lnB
          simp
          omega
        clear HS HF
        go_wp2_with fail
        go_roundw
        case rel => exact ⟨k + 1, by omega, by go_num, HA2, onward (below_alloc _ _) BR.out⟩
        case measure => simp [intOf]; omega
    · obtain rfl : k = ls.length := by omega
      have hall := HA.out
      rw [List.take_length] at hall
      have HQ := Lib.hid hall
      clear hlt HA hall
      go_wp2_with fail
      go_ret
      exact ⟨by rw [HQ.out]; first | done | rfl, onward BR.out B0.out⟩
end Go.Proofs.YtmppkhjjlgngkaaGreatDoor
