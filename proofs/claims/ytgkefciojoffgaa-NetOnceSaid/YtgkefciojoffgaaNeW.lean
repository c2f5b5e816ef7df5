/- The reference's Act: a letter is moved. (Printed by gen_nev.py.) -/
import Derived.Test.YtgkefciojoffgaaNeV
namespace Go.Proofs.Ytgkefciojoffgaa
open Go.RowKit
set_option linter.unusedVariables false
set_option linter.unusedSimpArgs false
attribute [local go_sem ↓] Go.wp_at_zero Go.wp_at_succ
set_option maxHeartbeats 1000000 in
set_option maxRecDepth 10000000 in
theorem ract_take (B rp gb : Nat) (G : Int) (v : Value) (L : List Lt) (c1 c2 c3 : Bool) (k : Nat) (w : World) (hBp : B ≤ rp) (hBg : B ≤ gb) (hN : RefV w rp gb G v L c1 c2 c3) (hL : LtsAt B w L) (hk : k < L.length) (hll : L.length ≤ 4096) (hg1 : 1 ≤ rgate G L[k].f L[k].t ∧ rgate G L[k].f L[k].t ≤ 3) (hc : cutAt c1 c2 c3 (rgate G L[k].f L[k].t) = false) :
    Calls Try.prog 21 #[.pointer (some ⟨rp, 0, none⟩), .int .u8 1, .int .i64 k] w fun e w' => e = .returned (.tuple #[L[k].val, .int .i64 0]) ∧ RefEnd B rp gb G v (L.eraseIdx k) c1 c2 c3 w w' := by
  obtain ⟨g, cap, cur, rfl, hg, h3, h4, h5, h6, h7⟩ := own_open hN.2.2 (by omega)
  have hb0 := below_alloc w (.cells #[.int .i64 0, .int .i64 0, .slice none 0 0] 30)
  obtain ⟨z0, n0, n1, n2⟩ := three_cells (stays_block hb0 hN.1)
  obtain ⟨ab, cb, hform⟩ := (hL L[k] (List.getElem_mem hk)).form
  obtain ⟨r0, r1, r2⟩ := row_letter (n := 0) (cap := 0) (stays_block hb0 h3) h7 k hk
  rw [hform] at r2
  have hone := lts_one hL
  obtain ⟨HB2, HP2, HQ2, hsz2⟩ := two_blocks w #[.int .i64 0, .int .i64 0, .slice none 0 0] #[.int .i64 L[k].f, .int .i64 L[k].t, .slice ab L[k].bs.length cb] 30 30
  have HN := Lib.hid hN
  have HL := Lib.hid hL
  have HF := Lib.hid hform
  have H3 := Lib.hid h3
  have H6 := Lib.hid h6
  have H7 := Lib.hid h7
  have HO := Lib.hid hone
  have HV := Lib.hid (show ∀ n : Nat, Below w.heap.size w (World.drewN ((w.alloc (.cells #[.int .i64 0, .int .i64 0, .slice none 0 0] 30)).alloc (.cells #[.int .i64 L[k].f, .int .i64 L[k].t, .slice ab L[k].bs.length cb] 30)) n) ∧ (World.drewN ((w.alloc (.cells #[.int .i64 0, .int .i64 0, .slice none 0 0] 30)).alloc (.cells #[.int .i64 L[k].f, .int .i64 L[k].t, .slice ab L[k].bs.length cb] 30)) n).heap[w.heap.size]? = _ ∧ (World.drewN ((w.alloc (.cells #[.int .i64 0, .int .i64 0, .slice none 0 0] 30)).alloc (.cells #[.int .i64 L[k].f, .int .i64 L[k].t, .slice ab L[k].bs.length cb] 30)) n).heap[w.heap.size + 1]? = _ ∧ w.heap.size + 2 ≤ (World.drewN ((w.alloc (.cells #[.int .i64 0, .int .i64 0, .slice none 0 0] 30)).alloc (.cells #[.int .i64 L[k].f, .int .i64 L[k].t, .slice ab L[k].bs.length cb] 30)) n).heap.size from fun n => ⟨World.below_drewN HB2 n, HP2, HQ2, Nat.le_of_eq hsz2.symm⟩)
  unfold maxLen at h5
  have hk0 : ¬ ((L.length : Int) ≤ k) := by omega
  have hk1 : (k : Int) < L.length := by omega
  have hgw := lt_of_block h3
  have hrw := lt_of_block hN.1
  have hw1 : IntKind.i64.wrap ((k : Int) + 1) = (k : Int) + 1 := IntWalk.i64_in _ (by omega)
  obtain ⟨i0, hi, hz0, hz1, hz2⟩ := info_parts infoL
  clear hN hL h3 h6 h7 hb0 hform hone HB2 HP2 HQ2 hsz2
  obtain ⟨gg, hgg⟩ : ∃ gg, rgate G L[k].f L[k].t = gg := ⟨_, rfl⟩
  rw [hgg] at hg1 hc
  have g0 : 0 ≤ gg := by omega
  have g4 : gg < 4 := by omega
  have hcell : w.cell? ⟨gb, gg.toNat, none⟩ = some (.bool false) := by
    rw [cell_of_row HN.out.2.1]
    have h3 : gg = 1 ∨ gg = 2 ∨ gg = 3 := by omega
    rcases h3 with rfl | rfl | rfl <;> simp [cutAt] at hc <;> simp [hc]
  have HG := Lib.hid hgg
  have HC0 := Lib.hid hcell
  clear hgg hc hg1 hcell
  go_enter Try.func21, Try.ntmps21
  go_wp2_with fail
  obtain ⟨hBV, hPV, hQV, hZV⟩ := HV.out 0
  have hBV : Below w.heap.size w ((w.alloc (.cells #[.int .i64 0, .int .i64 0, .slice none 0 0] 30)).alloc (.cells #[.int .i64 L[k].f, .int .i64 L[k].t, .slice ab L[k].bs.length cb] 30)) := hBV
  have hPV : (((w.alloc (.cells #[.int .i64 0, .int .i64 0, .slice none 0 0] 30)).alloc (.cells #[.int .i64 L[k].f, .int .i64 L[k].t, .slice ab L[k].bs.length cb] 30))).heap[w.heap.size]? = some (.cells #[.int .i64 0, .int .i64 0, .slice none 0 0] 30 (0, 0)) := hPV
  have hQV : (((w.alloc (.cells #[.int .i64 0, .int .i64 0, .slice none 0 0] 30)).alloc (.cells #[.int .i64 L[k].f, .int .i64 L[k].t, .slice ab L[k].bs.length cb] 30))).heap[w.heap.size + 1]? = some (.cells #[.int .i64 L[k].f, .int .i64 L[k].t, .slice ab L[k].bs.length cb] 30 (0, 0)) := hQV
  have hZV : w.heap.size + 2 ≤ (((w.alloc (.cells #[.int .i64 0, .int .i64 0, .slice none 0 0] 30)).alloc (.cells #[.int .i64 L[k].f, .int .i64 L[k].t, .slice ab L[k].bs.length cb] 30))).heap.size := hZV
  generalize ((w.alloc (.cells #[.int .i64 0, .int .i64 0, .slice none 0 0] 30)).alloc (.cells #[.int .i64 L[k].f, .int .i64 L[k].t, .slice ab L[k].bs.length cb] 30)) = U at *
  obtain ⟨-, u0, u1, u2⟩ := three_cells (stays_block hBV HN.out.1)
  obtain ⟨-, q0, q1, q2⟩ := three_cells hQV
  have d0 : U.drew.cell? ⟨rp, 0, none⟩ = some (.int .i64 G) := u0
  have d1 : U.drew.cell? ⟨rp, 2, none⟩ = some (.slice (some ⟨gb, 0, none⟩) 4 4) := u2
  have d2 : U.drew.cell? ⟨w.heap.size + 1, 0, none⟩ = some (.int .i64 L[k].f) := q0
  have d3 : U.drew.cell? ⟨w.heap.size + 1, 1, none⟩ = some (.int .i64 L[k].t) := q1
  have d4 : U.drew.cell? ⟨w.heap.size + 1, 2, none⟩ = some (.slice ab L[k].bs.length cb) := q2
  have d5 : U.drew.cell? ⟨gb, gg.toNat, none⟩ = some (.bool false) := stays hBV.drew HC0.out
  have HBU := Lib.hid hBV.drew
  have HPU : Hid (U.drew.heap[w.heap.size]? = _) := hPV
  have HQU : Hid (U.drew.heap[w.heap.size + 1]? = _) := hQV
  have HZU : Hid (w.heap.size + 2 ≤ U.drew.heap.size) := hZV
  clear u0 u1 u2 q0 q1 q2 hBV hPV hQV hZV HV
  refine wp_region_held_drew (S := (fun W => W.cell? ⟨rp, 2, none⟩ = some (.slice (some ⟨gb, 0, none⟩) 4 4) ∧ W.cell? ⟨w.heap.size + 1, 0, none⟩ = some (.int .i64 L[k].f) ∧ W.cell? ⟨w.heap.size + 1, 1, none⟩ = some (.int .i64 L[k].t) ∧ W.cell? ⟨w.heap.size + 1, 2, none⟩ = some (.slice ab L[k].bs.length cb) ∧ W.cell? ⟨gb, gg.toNat, none⟩ = some (.bool false))) (by kernel_rfl) ?_ (fun hHeld => ?_)
  · (try dsimp only)
    with_reducible exact ⟨d1, d2, d3, d4, d5⟩
  refine Plan.start (plan := [0, 1, 2, 3, 4, 5, 6, 7, 8]) (fuel := 4) (by decide +kernel) (by assumption) ?_
  refine Plan.free (i := 0) (ds := some 29) (v := ?_) rfl rfl rfl ?_ (fun _ _ _ h => h) ?_
  rotate_left
  · (intro w hSw; (try dsimp only at hSw); go_simp; first | done | with_reducible rfl)
  (try simp only [Act.put, List.setIfInBounds_toArray, List.set_cons_zero, List.set_cons_succ])
  refine Plan.free (i := 1) (ds := some 30) (v := ?_) rfl rfl rfl ?_ (fun _ _ _ h => h) ?_
  rotate_left
  · (intro w hSw; (try dsimp only at hSw); go_simp; first | done | with_reducible rfl)
  (try simp only [Act.put, List.setIfInBounds_toArray, List.set_cons_zero, List.set_cons_succ])
  refine Plan.free (i := 2) (ds := some 31) (v := ?_) rfl rfl rfl ?_ (fun _ _ _ h => h) ?_
  rotate_left
  · (intro w hSw; (try dsimp only at hSw); go_simp; first | done | with_reducible rfl)
  (try simp only [Act.put, List.setIfInBounds_toArray, List.set_cons_zero, List.set_cons_succ])
  refine Plan.on (i := 3) (ds := some 32) (j := 2) (d := 31) (v := ?_) rfl rfl rfl rfl rfl rfl ?_ (fun _ _ _ h => h) ?_
  rotate_left
  · (intro w hSw; (try dsimp only at hSw); go_simp; first | done | with_reducible rfl)
  (try simp only [Act.put, List.setIfInBounds_toArray, List.set_cons_zero, List.set_cons_succ])
  refine Plan.on (i := 4) (ds := some 33) (j := 2) (d := 31) (v := ?_) rfl rfl rfl rfl rfl rfl ?_ (fun _ _ _ h => h) ?_
  rotate_left
  · (intro w hSw; (try dsimp only at hSw); go_simp; first | done | with_reducible rfl)
  (try simp only [Act.put, List.setIfInBounds_toArray, List.set_cons_zero, List.set_cons_succ])
  refine Plan.on (i := 5) (ds := some 34) (j := 2) (d := 31) (v := ?_) rfl rfl rfl rfl rfl rfl ?_ (fun _ _ _ h => h) ?_
  rotate_left
  · (intro w hSw; (try dsimp only at hSw); go_simp; first | done | with_reducible rfl)
  (try simp only [Act.put, List.setIfInBounds_toArray, List.set_cons_zero, List.set_cons_succ])
  refine Plan.on (i := 6) (ds := some 35) (j := 2) (d := 31) (v := ?_) rfl rfl rfl rfl rfl rfl ?_ (fun _ _ _ h => h) ?_
  rotate_left
  · (intro w hSw; (try dsimp only at hSw); go_simp; first | done | with_reducible rfl)
  (try simp only [Act.put, List.setIfInBounds_toArray, List.set_cons_zero, List.set_cons_succ])
  refine Plan.on (i := 7) (ds := some 36) (j := 2) (d := 31) (v := ?_) rfl rfl rfl rfl rfl rfl ?_ (fun _ _ _ h => h) ?_
  rotate_left
  · (intro w hSw; (try dsimp only at hSw); go_simp; first | done | with_reducible rfl)
  (try simp only [Act.put, List.setIfInBounds_toArray, List.set_cons_zero, List.set_cons_succ])
  refine Plan.on (i := 8) (ds := some 37) (j := 2) (d := 31) (v := ?_) rfl rfl rfl rfl rfl rfl ?_ (fun _ _ _ h => h) ?_
  rotate_left
  · (intro w hSw; (try dsimp only at hSw); go_simp; first | done | with_reducible rfl)
  (try simp only [Act.put, List.setIfInBounds_toArray, List.set_cons_zero, List.set_cons_succ])
  refine Plan.stop (fun hHeld => ?_)
  refine wpAnyH_ready (rs := [9]) (by decide +kernel) (by simp) ?_
  refine AllReadyH.cons (o := _) rfl ?_ AllReadyH.nil
  intro K hK
  rw [if_pos (wanted_on (j := 2) (d := 31) (by rfl) (by rfl) (by rfl) (by rfl))]
  (go_simp; go_at_call 31; ((with_reducible refine (rgate_any rp G L[k].f L[k].t ab L[k].bs.length cb _ d0).mono ?_); rintro e V ⟨rfl, hb⟩; rw [HG.out]; have e1 := stays hb d1; have e2 := stays hb d2; have e3 := stays hb d3; have e4 := stays hb d4; have e5 := stays hb d5; have BV := Lib.hid (onward hb HBU.out); have PV := Lib.hid (stays_block hb HPU.out); have QV := Lib.hid (stays_block hb HQU.out); have ZV : Hid (w.heap.size + 2 ≤ V.heap.size) := Nat.le_trans HZU.out hb.size; clear hb))
  refine hK.out _ _ ?_ (fun hHeld => ?_)
  · (try dsimp only)
    with_reducible exact ⟨e1, e2, e3, e4, e5⟩
  clear hK K
  (try simp only [Act.put, List.setIfInBounds_toArray, List.set_cons_zero, List.set_cons_succ])
  refine Plan.start (plan := [10, 11, 12]) (fuel := 0) (by decide +kernel) (by assumption) ?_
  refine Plan.on (i := 10) (ds := some 39) (j := 2) (d := 31) (v := ?_) rfl rfl rfl rfl rfl rfl ?_ (fun _ _ _ h => h) ?_
  rotate_left
  · (intro w hSw; (try dsimp only at hSw); go_simp; first | done | with_reducible rfl)
  (try simp only [Act.put, List.setIfInBounds_toArray, List.set_cons_zero, List.set_cons_succ])
  refine Plan.on (i := 11) (ds := some 40) (j := 2) (d := 31) (v := ?_) rfl rfl rfl rfl rfl rfl ?_ (fun _ _ _ h => h) ?_
  rotate_left
  · (intro w hSw; (try dsimp only at hSw); go_simp; first | done | with_reducible rfl)
  (try simp only [Act.put, List.setIfInBounds_toArray, List.set_cons_zero, List.set_cons_succ])
  refine Plan.free (i := 12) (ds := some 41) (v := ?_) rfl rfl rfl ?_ (fun _ _ _ h => h) ?_
  rotate_left
  · (intro w hSw; (try dsimp only at hSw); go_simp; first | done | with_reducible rfl)
  (try simp only [Act.put, List.setIfInBounds_toArray, List.set_cons_zero, List.set_cons_succ])
  refine Plan.stop (fun hHeld => ?_)
  refine wpAnyH_done (by decide +kernel) ?_ _
  clear d0 d1 d2 d3 d4 d5 e1 e2 e3 e4 e5 hHeld HBU HPU HQU HZU
  obtain ⟨hx0, hx1, hx2, hx3⟩ : V.heap[rp]? = _ ∧ V.heap[g]? = _ ∧ V.heap[gb]? = _ ∧ w.heap.size + 2 ≤ V.heap.size := ⟨stays_block BV.out HN.out.1, stays_block BV.out H3.out, stays_block BV.out HN.out.2.1, ZV.out⟩
  obtain ⟨-, m0, m1, m2⟩ := three_cells hx0
  have X0 := Lib.hid hx0
  have X1 := Lib.hid hx1
  have X2 := Lib.hid hx2
  clear hx0 hx1 hx2 n0 n1 n2 r0 r1 r2
  by_cases hc : cap = k + 1
  · subst hc
    go_wp2_with (at_builtin; refine wpList_append_own _ rfl (.tmp 49) (.tmp 55) 34 rfl (w.heap.size + 2) 30 i0 _ 3 40 Try.underlying34 hi hz0 hz1 hz2 rfl (by decide) (.slice none 0 0) 0 [] rfl (World.ownsRow_nil _ _ _ _) ⟨g, 0, none⟩ k (k + 1) (((L.flatMap Lt.cells).drop 0).take (k * 3)) rfl (part_len _ _ _ (by rw [cells_len]; omega)) (row_src X1.out H7.out 0 (k * 3) (by omega)) (part_one HO.out _ _) (by unfold maxLen; omega) (by omega) (by omega) ?_)
    intro v1 V1 hown1 hgrow1 _
    have O1 := Lib.hid hown1
    have hb1 : Below V.heap.size V V1 := ⟨hgrow1.os, hgrow1.tape, hgrow1.output, hgrow1.size, fun k hk => hgrow1.block k hk (fun e => by cases e)⟩
    have B1 := Lib.hid (BV.out.trans (hb1.mono (by omega)))
    have Y0 := Lib.hid (stays_block hb1 X0.out)
    have Y1 := Lib.hid (stays_block hb1 X1.out)
    have YP := Lib.hid (stays_block hb1 PV.out)
    have YQ := Lib.hid (stays_block hb1 QV.out)
    obtain ⟨-, m0, m1, m2⟩ := three_cells Y0.out
    have hz1' := hb1.size
    clear hown1 hgrow1 hb1
    obtain ⟨a1, cc1, hv1⟩ := net_form O1.out
    subst hv1
    go_wp2_with (at_builtin; refine wpList_append_own _ rfl (.tmp 57) (.tmp 64) 34 rfl (w.heap.size + 2) 30 i0 _ 3 40 Try.underlying34 hi hz0 hz1 hz2 rfl (by decide) _ _ _ rfl O1.out ⟨g, 0, none⟩ 0 0 [] rfl rfl (fun j u hj => by simp at hj) (fun u hu => by cases hu) (by unfold maxLen; omega) (by omega) (by omega) ?_)
    intro v2 V2 hown2 hgrow2 _
    have hl2 : (L.eraseIdx k).length = L.length - 1 := List.length_eraseIdx_of_lt hk
    have O2 : Hid (V2.ownsRow (w.heap.size + 2) 30 3 v2 (L.eraseIdx k).length ((L.eraseIdx k).flatMap Lt.cells)) := by
      have h := hown2
      rw [moved_cells' hk (by omega)] at h
      unfold Hid
      rw [hl2]
      have e : L.length - 1 = k := by omega
      rw [e]
      exact h
    have B2 := Lib.hid (owned_below' (by omega) O1.out B1.out hgrow2)
    have W0 := Lib.hid (own_keeps O1.out hgrow2 (by omega) Y0.out)
    have WP := Lib.hid (own_keeps O1.out hgrow2 (by omega) YP.out)
    have WQ := Lib.hid (own_keeps O1.out hgrow2 (by omega) YQ.out)
    have hz2' := hgrow2.size
    obtain ⟨a2, cc2, hv2⟩ := net_form O2.out
    subst hv2
    rw [hl2] at O2 ⊢
    have O2L : Hid (V2.ownsRow (w.heap.size + 2) 30 3 (.slice a2 (L.length - 1) cc2) (L.eraseIdx k).length ((L.eraseIdx k).flatMap Lt.cells)) := by
      unfold Hid
      rw [hl2]
      exact O2.out
    clear hown2 hgrow2 O1 m0 m1 m2
    obtain ⟨-, m0, m1, m2⟩ := three_cells W0.out
    obtain ⟨-, p0, p1, p2⟩ := three_cells WP.out
    obtain ⟨-, q0, q1, q2⟩ := three_cells WQ.out
    have fr1 : V2.frozen? ⟨rp, 1, none⟩ = false := free_of_row W0.out
    have fp0 : V2.frozen? ⟨w.heap.size, 0, none⟩ = false := free_of_row WP.out
    have fp1 : V2.frozen? ⟨w.heap.size, 1, none⟩ = false := free_of_row WP.out
    have fp2 : V2.frozen? ⟨w.heap.size, 2, none⟩ = false := free_of_row WP.out
    have hnr : rp ≠ w.heap.size := by omega
    have hnr' : w.heap.size ≠ rp := by omega
    have hpl := lt_of_block WP.out
    have HC := Lib.hid (fun y0 y1 y2 => ract_close (po := w.heap.size) hBp hBg HN.out HL.out B2.out rfl hpl WP.out (L' := L.eraseIdx k) (ownsRow_base (by omega) O2L.out) (fun l hl => List.mem_of_mem_eraseIdx hl) y0 y1 y2)
    clear hpl
    go_wp2_with fail
    refine bodyPost_ret (v := .tuple #[L[k].val, .int .i64 0]) ?_ rfl ⟨rfl, HC.out _ _ _⟩
    simp [results, Lt.val, Try.results21, go_sem, p0, p1, p2, hnr, hnr', HF.out]
  · go_wp2_with (at_builtin; refine wpList_append_own _ rfl (.tmp 49) (.tmp 55) 34 rfl (w.heap.size + 2) 30 i0 _ 3 40 Try.underlying34 hi hz0 hz1 hz2 rfl (by decide) (.slice none 0 0) 0 [] rfl (World.ownsRow_nil _ _ _ _) ⟨g, 0, none⟩ k cap (((L.flatMap Lt.cells).drop 0).take (k * 3)) rfl (part_len _ _ _ (by rw [cells_len]; omega)) (row_src X1.out H7.out 0 (k * 3) (by omega)) (part_one HO.out _ _) (by unfold maxLen; omega) (by omega) (by omega) ?_)
    intro v1 V1 hown1 hgrow1 _
    have O1 := Lib.hid hown1
    have hb1 : Below V.heap.size V V1 := ⟨hgrow1.os, hgrow1.tape, hgrow1.output, hgrow1.size, fun k hk => hgrow1.block k hk (fun e => by cases e)⟩
    have B1 := Lib.hid (BV.out.trans (hb1.mono (by omega)))
    have Y0 := Lib.hid (stays_block hb1 X0.out)
    have Y1 := Lib.hid (stays_block hb1 X1.out)
    have YP := Lib.hid (stays_block hb1 PV.out)
    have YQ := Lib.hid (stays_block hb1 QV.out)
    obtain ⟨-, m0, m1, m2⟩ := three_cells Y0.out
    have hz1' := hb1.size
    clear hown1 hgrow1 hb1
    obtain ⟨a1, cc1, hv1⟩ := net_form O1.out
    subst hv1
    go_wp2_with (at_builtin; refine wpList_append_own _ rfl (.tmp 57) (.tmp 64) 34 rfl (w.heap.size + 2) 30 i0 _ 3 40 Try.underlying34 hi hz0 hz1 hz2 rfl (by decide) _ _ _ rfl O1.out ⟨g, (k + 1) * 3, none⟩ (L.length - (k + 1)) (cap - (k + 1)) (((L.flatMap Lt.cells).drop ((k + 1) * 3)).take ((L.length - (k + 1)) * 3)) rfl (part_len _ _ _ (by rw [cells_len]; omega)) (row_src Y1.out H7.out _ _ (by omega)) (part_one HO.out _ _) (by unfold maxLen; omega) (by omega) (by omega) ?_)
    intro v2 V2 hown2 hgrow2 _
    have hl2 : (L.eraseIdx k).length = L.length - 1 := List.length_eraseIdx_of_lt hk
    have O2 : Hid (V2.ownsRow (w.heap.size + 2) 30 3 v2 (L.eraseIdx k).length ((L.eraseIdx k).flatMap Lt.cells)) := by
      have h := hown2
      rw [moved_cells hk] at h
      unfold Hid
      rw [hl2]
      have e : L.length - 1 = k + (L.length - (k + 1)) := by omega
      rw [e]
      exact h
    have B2 := Lib.hid (owned_below' (by omega) O1.out B1.out hgrow2)
    have W0 := Lib.hid (own_keeps O1.out hgrow2 (by omega) Y0.out)
    have WP := Lib.hid (own_keeps O1.out hgrow2 (by omega) YP.out)
    have WQ := Lib.hid (own_keeps O1.out hgrow2 (by omega) YQ.out)
    have hz2' := hgrow2.size
    obtain ⟨a2, cc2, hv2⟩ := net_form O2.out
    subst hv2
    rw [hl2] at O2 ⊢
    have O2L : Hid (V2.ownsRow (w.heap.size + 2) 30 3 (.slice a2 (L.length - 1) cc2) (L.eraseIdx k).length ((L.eraseIdx k).flatMap Lt.cells)) := by
      unfold Hid
      rw [hl2]
      exact O2.out
    clear hown2 hgrow2 O1 m0 m1 m2
    obtain ⟨-, m0, m1, m2⟩ := three_cells W0.out
    obtain ⟨-, p0, p1, p2⟩ := three_cells WP.out
    obtain ⟨-, q0, q1, q2⟩ := three_cells WQ.out
    have fr1 : V2.frozen? ⟨rp, 1, none⟩ = false := free_of_row W0.out
    have fp0 : V2.frozen? ⟨w.heap.size, 0, none⟩ = false := free_of_row WP.out
    have fp1 : V2.frozen? ⟨w.heap.size, 1, none⟩ = false := free_of_row WP.out
    have fp2 : V2.frozen? ⟨w.heap.size, 2, none⟩ = false := free_of_row WP.out
    have hnr : rp ≠ w.heap.size := by omega
    have hnr' : w.heap.size ≠ rp := by omega
    have hpl := lt_of_block WP.out
    have HC := Lib.hid (fun y0 y1 y2 => ract_close (po := w.heap.size) hBp hBg HN.out HL.out B2.out rfl hpl WP.out (L' := L.eraseIdx k) (ownsRow_base (by omega) O2L.out) (fun l hl => List.mem_of_mem_eraseIdx hl) y0 y1 y2)
    clear hpl
    go_wp2_with fail
    refine bodyPost_ret (v := .tuple #[L[k].val, .int .i64 0]) ?_ rfl ⟨rfl, HC.out _ _ _⟩
    simp [results, Lt.val, Try.results21, go_sem, p0, p1, p2, hnr, hnr', HF.out]
set_option maxHeartbeats 1000000 in
set_option maxRecDepth 10000000 in
theorem ract_cut (B rp gb : Nat) (G : Int) (v : Value) (L : List Lt) (c1 c2 c3 : Bool) (k : Nat) (w : World) (hBp : B ≤ rp) (hBg : B ≤ gb) (hN : RefV w rp gb G v L c1 c2 c3) (hL : LtsAt B w L) (hk : k < L.length) (hll : L.length ≤ 4096) (hg1 : 1 ≤ rgate G L[k].f L[k].t ∧ rgate G L[k].f L[k].t ≤ 3) (hc : cutAt c1 c2 c3 (rgate G L[k].f L[k].t) = true) :
    Calls Try.prog 21 #[.pointer (some ⟨rp, 0, none⟩), .int .u8 1, .int .i64 k] w fun e w' => e = .returned (.tuple #[letter0, .int .i64 50]) ∧ Below w.heap.size w w' := by
  obtain ⟨g, cap, cur, rfl, hg, h3, h4, h5, h6, h7⟩ := own_open hN.2.2 (by omega)
  have hb0 := below_alloc w (.cells #[.int .i64 0, .int .i64 0, .slice none 0 0] 30)
  obtain ⟨z0, n0, n1, n2⟩ := three_cells (stays_block hb0 hN.1)
  obtain ⟨ab, cb, hform⟩ := (hL L[k] (List.getElem_mem hk)).form
  obtain ⟨r0, r1, r2⟩ := row_letter (n := 0) (cap := 0) (stays_block hb0 h3) h7 k hk
  rw [hform] at r2
  have hone := lts_one hL
  obtain ⟨HB2, HP2, HQ2, hsz2⟩ := two_blocks w #[.int .i64 0, .int .i64 0, .slice none 0 0] #[.int .i64 L[k].f, .int .i64 L[k].t, .slice ab L[k].bs.length cb] 30 30
  have HN := Lib.hid hN
  have HL := Lib.hid hL
  have HF := Lib.hid hform
  have H3 := Lib.hid h3
  have H6 := Lib.hid h6
  have H7 := Lib.hid h7
  have HO := Lib.hid hone
  have HV := Lib.hid (show ∀ n : Nat, Below w.heap.size w (World.drewN ((w.alloc (.cells #[.int .i64 0, .int .i64 0, .slice none 0 0] 30)).alloc (.cells #[.int .i64 L[k].f, .int .i64 L[k].t, .slice ab L[k].bs.length cb] 30)) n) ∧ (World.drewN ((w.alloc (.cells #[.int .i64 0, .int .i64 0, .slice none 0 0] 30)).alloc (.cells #[.int .i64 L[k].f, .int .i64 L[k].t, .slice ab L[k].bs.length cb] 30)) n).heap[w.heap.size]? = _ ∧ (World.drewN ((w.alloc (.cells #[.int .i64 0, .int .i64 0, .slice none 0 0] 30)).alloc (.cells #[.int .i64 L[k].f, .int .i64 L[k].t, .slice ab L[k].bs.length cb] 30)) n).heap[w.heap.size + 1]? = _ ∧ w.heap.size + 2 ≤ (World.drewN ((w.alloc (.cells #[.int .i64 0, .int .i64 0, .slice none 0 0] 30)).alloc (.cells #[.int .i64 L[k].f, .int .i64 L[k].t, .slice ab L[k].bs.length cb] 30)) n).heap.size from fun n => ⟨World.below_drewN HB2 n, HP2, HQ2, Nat.le_of_eq hsz2.symm⟩)
  unfold maxLen at h5
  have hk0 : ¬ ((L.length : Int) ≤ k) := by omega
  have hk1 : (k : Int) < L.length := by omega
  have hgw := lt_of_block h3
  have hrw := lt_of_block hN.1
  have hw1 : IntKind.i64.wrap ((k : Int) + 1) = (k : Int) + 1 := IntWalk.i64_in _ (by omega)
  obtain ⟨i0, hi, hz0, hz1, hz2⟩ := info_parts infoL
  clear hN hL h3 h6 h7 hb0 hform hone HB2 HP2 HQ2 hsz2
  obtain ⟨gg, hgg⟩ : ∃ gg, rgate G L[k].f L[k].t = gg := ⟨_, rfl⟩
  rw [hgg] at hg1 hc
  have g0 : 0 ≤ gg := by omega
  have g4 : gg < 4 := by omega
  have hcell : w.cell? ⟨gb, gg.toNat, none⟩ = some (.bool true) := by
    rw [cell_of_row HN.out.2.1]
    have h3 : gg = 1 ∨ gg = 2 ∨ gg = 3 := by omega
    rcases h3 with rfl | rfl | rfl <;> simp [cutAt] at hc <;> simp [hc]
  have HG := Lib.hid hgg
  have HC0 := Lib.hid hcell
  clear hgg hc hg1 hcell
  go_enter Try.func21, Try.ntmps21
  go_wp2_with fail
  obtain ⟨hBV, hPV, hQV, hZV⟩ := HV.out 0
  have hBV : Below w.heap.size w ((w.alloc (.cells #[.int .i64 0, .int .i64 0, .slice none 0 0] 30)).alloc (.cells #[.int .i64 L[k].f, .int .i64 L[k].t, .slice ab L[k].bs.length cb] 30)) := hBV
  have hPV : (((w.alloc (.cells #[.int .i64 0, .int .i64 0, .slice none 0 0] 30)).alloc (.cells #[.int .i64 L[k].f, .int .i64 L[k].t, .slice ab L[k].bs.length cb] 30))).heap[w.heap.size]? = some (.cells #[.int .i64 0, .int .i64 0, .slice none 0 0] 30 (0, 0)) := hPV
  have hQV : (((w.alloc (.cells #[.int .i64 0, .int .i64 0, .slice none 0 0] 30)).alloc (.cells #[.int .i64 L[k].f, .int .i64 L[k].t, .slice ab L[k].bs.length cb] 30))).heap[w.heap.size + 1]? = some (.cells #[.int .i64 L[k].f, .int .i64 L[k].t, .slice ab L[k].bs.length cb] 30 (0, 0)) := hQV
  have hZV : w.heap.size + 2 ≤ (((w.alloc (.cells #[.int .i64 0, .int .i64 0, .slice none 0 0] 30)).alloc (.cells #[.int .i64 L[k].f, .int .i64 L[k].t, .slice ab L[k].bs.length cb] 30))).heap.size := hZV
  generalize ((w.alloc (.cells #[.int .i64 0, .int .i64 0, .slice none 0 0] 30)).alloc (.cells #[.int .i64 L[k].f, .int .i64 L[k].t, .slice ab L[k].bs.length cb] 30)) = U at *
  obtain ⟨-, u0, u1, u2⟩ := three_cells (stays_block hBV HN.out.1)
  obtain ⟨-, q0, q1, q2⟩ := three_cells hQV
  have d0 : U.drew.cell? ⟨rp, 0, none⟩ = some (.int .i64 G) := u0
  have d1 : U.drew.cell? ⟨rp, 2, none⟩ = some (.slice (some ⟨gb, 0, none⟩) 4 4) := u2
  have d2 : U.drew.cell? ⟨w.heap.size + 1, 0, none⟩ = some (.int .i64 L[k].f) := q0
  have d3 : U.drew.cell? ⟨w.heap.size + 1, 1, none⟩ = some (.int .i64 L[k].t) := q1
  have d4 : U.drew.cell? ⟨w.heap.size + 1, 2, none⟩ = some (.slice ab L[k].bs.length cb) := q2
  have d5 : U.drew.cell? ⟨gb, gg.toNat, none⟩ = some (.bool true) := stays hBV.drew HC0.out
  have HBU := Lib.hid hBV.drew
  have HPU : Hid (U.drew.heap[w.heap.size]? = _) := hPV
  have HQU : Hid (U.drew.heap[w.heap.size + 1]? = _) := hQV
  have HZU : Hid (w.heap.size + 2 ≤ U.drew.heap.size) := hZV
  clear u0 u1 u2 q0 q1 q2 hBV hPV hQV hZV HV
  refine wp_region_held_drew (S := (fun W => W.cell? ⟨rp, 2, none⟩ = some (.slice (some ⟨gb, 0, none⟩) 4 4) ∧ W.cell? ⟨w.heap.size + 1, 0, none⟩ = some (.int .i64 L[k].f) ∧ W.cell? ⟨w.heap.size + 1, 1, none⟩ = some (.int .i64 L[k].t) ∧ W.cell? ⟨w.heap.size + 1, 2, none⟩ = some (.slice ab L[k].bs.length cb) ∧ W.cell? ⟨gb, gg.toNat, none⟩ = some (.bool true))) (by kernel_rfl) ?_ (fun hHeld => ?_)
  · (try dsimp only)
    with_reducible exact ⟨d1, d2, d3, d4, d5⟩
  refine Plan.start (plan := [0, 1, 2, 3, 4, 5, 6, 7, 8]) (fuel := 4) (by decide +kernel) (by assumption) ?_
  refine Plan.free (i := 0) (ds := some 29) (v := ?_) rfl rfl rfl ?_ (fun _ _ _ h => h) ?_
  rotate_left
  · (intro w hSw; (try dsimp only at hSw); go_simp; first | done | with_reducible rfl)
  (try simp only [Act.put, List.setIfInBounds_toArray, List.set_cons_zero, List.set_cons_succ])
  refine Plan.free (i := 1) (ds := some 30) (v := ?_) rfl rfl rfl ?_ (fun _ _ _ h => h) ?_
  rotate_left
  · (intro w hSw; (try dsimp only at hSw); go_simp; first | done | with_reducible rfl)
  (try simp only [Act.put, List.setIfInBounds_toArray, List.set_cons_zero, List.set_cons_succ])
  refine Plan.free (i := 2) (ds := some 31) (v := ?_) rfl rfl rfl ?_ (fun _ _ _ h => h) ?_
  rotate_left
  · (intro w hSw; (try dsimp only at hSw); go_simp; first | done | with_reducible rfl)
  (try simp only [Act.put, List.setIfInBounds_toArray, List.set_cons_zero, List.set_cons_succ])
  refine Plan.on (i := 3) (ds := some 32) (j := 2) (d := 31) (v := ?_) rfl rfl rfl rfl rfl rfl ?_ (fun _ _ _ h => h) ?_
  rotate_left
  · (intro w hSw; (try dsimp only at hSw); go_simp; first | done | with_reducible rfl)
  (try simp only [Act.put, List.setIfInBounds_toArray, List.set_cons_zero, List.set_cons_succ])
  refine Plan.on (i := 4) (ds := some 33) (j := 2) (d := 31) (v := ?_) rfl rfl rfl rfl rfl rfl ?_ (fun _ _ _ h => h) ?_
  rotate_left
  · (intro w hSw; (try dsimp only at hSw); go_simp; first | done | with_reducible rfl)
  (try simp only [Act.put, List.setIfInBounds_toArray, List.set_cons_zero, List.set_cons_succ])
  refine Plan.on (i := 5) (ds := some 34) (j := 2) (d := 31) (v := ?_) rfl rfl rfl rfl rfl rfl ?_ (fun _ _ _ h => h) ?_
  rotate_left
  · (intro w hSw; (try dsimp only at hSw); go_simp; first | done | with_reducible rfl)
  (try simp only [Act.put, List.setIfInBounds_toArray, List.set_cons_zero, List.set_cons_succ])
  refine Plan.on (i := 6) (ds := some 35) (j := 2) (d := 31) (v := ?_) rfl rfl rfl rfl rfl rfl ?_ (fun _ _ _ h => h) ?_
  rotate_left
  · (intro w hSw; (try dsimp only at hSw); go_simp; first | done | with_reducible rfl)
  (try simp only [Act.put, List.setIfInBounds_toArray, List.set_cons_zero, List.set_cons_succ])
  refine Plan.on (i := 7) (ds := some 36) (j := 2) (d := 31) (v := ?_) rfl rfl rfl rfl rfl rfl ?_ (fun _ _ _ h => h) ?_
  rotate_left
  · (intro w hSw; (try dsimp only at hSw); go_simp; first | done | with_reducible rfl)
  (try simp only [Act.put, List.setIfInBounds_toArray, List.set_cons_zero, List.set_cons_succ])
  refine Plan.on (i := 8) (ds := some 37) (j := 2) (d := 31) (v := ?_) rfl rfl rfl rfl rfl rfl ?_ (fun _ _ _ h => h) ?_
  rotate_left
  · (intro w hSw; (try dsimp only at hSw); go_simp; first | done | with_reducible rfl)
  (try simp only [Act.put, List.setIfInBounds_toArray, List.set_cons_zero, List.set_cons_succ])
  refine Plan.stop (fun hHeld => ?_)
  refine wpAnyH_ready (rs := [9]) (by decide +kernel) (by simp) ?_
  refine AllReadyH.cons (o := _) rfl ?_ AllReadyH.nil
  intro K hK
  rw [if_pos (wanted_on (j := 2) (d := 31) (by rfl) (by rfl) (by rfl) (by rfl))]
  (go_simp; go_at_call 31; ((with_reducible refine (rgate_any rp G L[k].f L[k].t ab L[k].bs.length cb _ d0).mono ?_); rintro e V ⟨rfl, hb⟩; rw [HG.out]; have e1 := stays hb d1; have e2 := stays hb d2; have e3 := stays hb d3; have e4 := stays hb d4; have e5 := stays hb d5; have BV := Lib.hid (onward hb HBU.out); have PV := Lib.hid (stays_block hb HPU.out); have QV := Lib.hid (stays_block hb HQU.out); have ZV : Hid (w.heap.size + 2 ≤ V.heap.size) := Nat.le_trans HZU.out hb.size; clear hb))
  refine hK.out _ _ ?_ (fun hHeld => ?_)
  · (try dsimp only)
    with_reducible exact ⟨e1, e2, e3, e4, e5⟩
  clear hK K
  (try simp only [Act.put, List.setIfInBounds_toArray, List.set_cons_zero, List.set_cons_succ])
  refine Plan.start (plan := [10, 11, 12]) (fuel := 0) (by decide +kernel) (by assumption) ?_
  refine Plan.on (i := 10) (ds := some 39) (j := 2) (d := 31) (v := ?_) rfl rfl rfl rfl rfl rfl ?_ (fun _ _ _ h => h) ?_
  rotate_left
  · (intro w hSw; (try dsimp only at hSw); go_simp; first | done | with_reducible rfl)
  (try simp only [Act.put, List.setIfInBounds_toArray, List.set_cons_zero, List.set_cons_succ])
  refine Plan.on (i := 11) (ds := some 40) (j := 2) (d := 31) (v := ?_) rfl rfl rfl rfl rfl rfl ?_ (fun _ _ _ h => h) ?_
  rotate_left
  · (intro w hSw; (try dsimp only at hSw); go_simp; first | done | with_reducible rfl)
  (try simp only [Act.put, List.setIfInBounds_toArray, List.set_cons_zero, List.set_cons_succ])
  refine Plan.free (i := 12) (ds := some 41) (v := ?_) rfl rfl rfl ?_ (fun _ _ _ h => h) ?_
  rotate_left
  · (intro w hSw; (try dsimp only at hSw); go_simp; first | done | with_reducible rfl)
  (try simp only [Act.put, List.setIfInBounds_toArray, List.set_cons_zero, List.set_cons_succ])
  refine Plan.stop (fun hHeld => ?_)
  refine wpAnyH_done (by decide +kernel) ?_ _
  clear d0 d1 d2 d3 d4 d5 e1 e2 e3 e4 e5 hHeld HBU HPU HQU HZU
  obtain ⟨-, p0, p1, p2⟩ := three_cells PV.out
  have fp0 : V.frozen? ⟨w.heap.size, 0, none⟩ = false := free_of_row PV.out
  have fp1 : V.frozen? ⟨w.heap.size, 1, none⟩ = false := free_of_row PV.out
  have fp2 : V.frozen? ⟨w.heap.size, 2, none⟩ = false := free_of_row PV.out
  go_wp2_with fail
  refine bodyPost_ret (v := .tuple #[letter0, .int .i64 50]) ?_ rfl ⟨rfl, set3_below (Nat.le_refl _) BV.out _ _ _⟩
  simp [results, letter0, Try.results21, go_sem, p0, p1, p2]
end Go.Proofs.Ytgkefciojoffgaa
