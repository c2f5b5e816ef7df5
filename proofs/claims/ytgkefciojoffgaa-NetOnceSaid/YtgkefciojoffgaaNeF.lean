/- The walks of the closures in the net's Hold and Take. -/
import Derived.Test.YtgkefciojoffgaaNeG
namespace Go.Proofs.Ytgkefciojoffgaa
open Go.RowKit
set_option linter.unusedVariables false
set_option linter.unusedSimpArgs false
attribute [local go_sem ↓] Go.wp_at_zero Go.wp_at_succ
theorem hold_close {B pn g cap k : Nat} {G : Int} {cur : Array Value} {L : List Lt} {c0 c1 c2 c3 : Bool} {lf lt' : Int} {lb : Value} {bs : List UInt8} {w wd w2 wa w3 : World} {e : Ending} {g3 cap3 : Nat} (hBp : B ≤ pn) (HN : NetV w pn G (.slice (some ⟨g, 0, none⟩) L.length cap) L c0 c1 c2 c3) (HL : LtsAt B w L) (hB : BytesAt B w lb bs) (Bd : Below w.heap.size w wd) (hk : k < L.length) (hD : DelEnd g L.length cap k cur wd e w2)
    (hown : w3.ownsRow (pn + 1) 30 3 (.slice (some ⟨g3, 0, none⟩) (L.length - 1 + 1) cap3) (L.length - 1 + 1) ((L.eraseIdx k).flatMap Lt.cells ++ [.int .i64 lf, .int .i64 lt', lb])) (hba : Below w2.heap.size w2 wa) (hgr : wa.grownBy w3 (some g))
    (hat : some g = some g3 ∨ g3 = wa.heap.size) (HV3 : w3.heap[pn]? = some (.cells #[.int .i64 G, .slice (some ⟨g, 0, none⟩) L.length cap, .bool c0, .bool c1, .bool c2, .bool c3] 56 (0, 0))) :
    NetEnd B pn G (.slice (some ⟨g, 0, none⟩) L.length cap) (L.eraseIdx k ++ [⟨lf, lt', lb, bs⟩]) c0 c1 c2 c3 w (w3.setCell ⟨pn, 1, none⟩ (.slice (some ⟨g3, 0, none⟩) (L.length - 1 + 1) cap3)) := by
  have hkd : Kept (Mine pn (.slice (some ⟨g, 0, none⟩) L.length cap)) wd w2 := hD.2.1.mono fun k _ h => .inr (by rw [h]; rfl)
  have hk3 : Kept (Mine pn (.slice (some ⟨g, 0, none⟩) L.length cap)) wa w3 := ⟨hgr.os, hgr.tape, hgr.output, hgr.size, fun k hk hn => hgr.block k hk fun e => hn (.inr (by rw [e]; rfl))⟩
  have hkk : Kept (Mine pn (.slice (some ⟨g, 0, none⟩) L.length cap)) w (w3.setCell ⟨pn, 1, none⟩ (.slice (some ⟨g3, 0, none⟩) (L.length - 1 + 1) cap3)) := ((((Kept.of_below Bd _).trans hkd).trans (Kept.of_below hba _)).trans hk3).trans (Kept.setCell _ _ _ (.inl rfl))
  have hl : (L.eraseIdx k).length = L.length - 1 := List.length_eraseIdx_of_lt hk
  refine ⟨.slice (some ⟨g3, 0, none⟩) (L.length - 1 + 1) cap3, ⟨set_block HV3, ?_⟩, ?_, hkk, ?_⟩
  · have h1 := ownsRow_setCell_other (a := ⟨pn, 1, none⟩) hown (fun e => by have := (hown.lt _ e).1; exact absurd this (by show ¬ pn + 1 ≤ pn; omega)) (.slice (some ⟨g3, 0, none⟩) (L.length - 1 + 1) cap3)
    rw [List.flatMap_append, List.length_append, hl]
    exact h1
  · intro l hl
    rcases List.mem_append.1 hl with h | h
    · exact (HL l (List.mem_of_mem_eraseIdx h)).step (HN.stp hBp hkk)
    · simp at h; subst h
      exact hB.step (HN.stp hBp hkk)
  · rcases hat with h | h
    · exact .inl (by injection h with h; rw [h]; rfl)
    · refine .inr fun k hk => ?_
      have e : g3 = k := by simpa [Value.ownBlock] using hk
      have h1 := Bd.size
      have h2 := hkd.size
      have h3 := hba.size
      omega
set_option maxHeartbeats 40000000 in
set_option maxRecDepth 10000000 in
theorem hold1_any (B pn bn bk k : Nat) (G : Int) (v : Value) (L : List Lt) (c0 c1 c2 c3 : Bool) (lf lt' : Int) (lb : Value) (bs : List UInt8) (w : World) (hBp : B ≤ pn) (hN : NetV w pn G v L c0 c1 c2 c3) (hL : LtsAt B w L) (hB : BytesAt B w lb bs) (hk : k < L.length) (h1 : Box w bn (.pointer (some ⟨pn, 0, none⟩)) 22) (h2 : Box w bk (.int .i64 k) 3) (hll : L.length ≤ 4096) :
    Calls Try.prog 29 #[.agg #[.int .i64 lf, .int .i64 lt', lb], .pointer (some ⟨bn, 0, none⟩), .pointer (some ⟨bk, 0, none⟩)] w fun e w' => e = .returned (.int .i64 0) ∧ NetEnd B pn G v (L.eraseIdx k ++ [⟨lf, lt', lb, bs⟩]) c0 c1 c2 c3 w w' := by
  obtain ⟨g, cap, cur, rfl, hg, h3, h4, h5, h6, h7⟩ := own_open hN.2 (by omega)
  obtain ⟨a2, cc2, rfl⟩ := hB.form
  have BW := Lib.hid (below_alloc w (.cells #[.int .i64 lf, .int .i64 lt', .slice a2 bs.length cc2] 30))
  have G0 := heap_alloc_new w (.cells #[.int .i64 lf, .int .i64 lt', .slice a2 bs.length cc2] 30)
  obtain ⟨z1, k0, k1, k2⟩ := three_cells G0
  have hgw := lt_of_block h3
  have a1 := (h1.below (below_alloc w (.cells #[.int .i64 lf, .int .i64 lt', .slice a2 bs.length cc2] 30))).cell
  have a2' := (h2.below (below_alloc w (.cells #[.int .i64 lf, .int .i64 lt', .slice a2 bs.length cc2] 30))).cell
  have hN1 := hN.below (below_alloc w (.cells #[.int .i64 lf, .int .i64 lt', .slice a2 bs.length cc2] 30))
  obtain ⟨z0, n0, n1, -⟩ := net_cells hN1.1
  have h31 := stays_block (below_alloc w (.cells #[.int .i64 lf, .int .i64 lt', .slice a2 bs.length cc2] 30)) h3
  have hone := Lib.hid (lts_one hL)
  have HN := Lib.hid hN
  have HN1 := Lib.hid hN1
  have HL := Lib.hid hL
  have HB := Lib.hid hB
  have H31 := Lib.hid h31
  have H5 := Lib.hid h6
  have H7 := Lib.hid h7
  have HG0 := Lib.hid G0
  have hw1 : IntKind.i64.wrap ((k : Int) + 1) = (k : Int) + 1 := IntWalk.i64_in _ (by omega)
  have x1 := Lib.hid (h1.below (below_alloc w (.cells #[.int .i64 lf, .int .i64 lt', .slice a2 bs.length cc2] 30)))
  have x2 := Lib.hid (h2.below (below_alloc w (.cells #[.int .i64 lf, .int .i64 lt', .slice a2 bs.length cc2] 30)))
  clear hN hN1 hL hB h3 h31 h6 h7 h1 h2 G0
  obtain ⟨i0, hi, hz0, hz1, hz2⟩ := info_parts infoL
  go_enter Try.func29, Try.ntmps29
  go_wp2_with fail
  generalize w.alloc (.cells #[.int .i64 lf, .int .i64 lt', .slice a2 bs.length cc2] 30) = W at *
  have y1 : bn ≠ g := ne_typed x1.out H31.out (by decide)
  have y2 : bk ≠ g := ne_typed x2.out H31.out (by decide)
  have y3 : pn ≠ g := by omega
  have y4 : w.heap.size ≠ g := by omega
  have BV : Below W.heap.size W (W.alloc (.cells #[.int .i64 lf, .int .i64 lt', .slice a2 bs.length cc2] 30)).drew := (below_alloc _ _).drew
  have H31v : Hid ((W.alloc (.cells #[.int .i64 lf, .int .i64 lt', .slice a2 bs.length cc2] 30)).drew.heap[g]? = some (.cells cur 30 (0, 0))) := stays_block BV H31.out
  have H31d : Hid (W.drew.heap[g]? = some (.cells cur 30 (0, 0))) := H31.out
  have NB : Hid ((W.alloc (.cells #[.int .i64 lf, .int .i64 lt', .slice a2 bs.length cc2] 30)).drew.heap[W.heap.size]? = some (.cells #[.int .i64 lf, .int .i64 lt', .slice a2 bs.length cc2] 30)) := heap_alloc_new W _
  have VN0 : Hid (W.drew.heap[pn]? = some _) := HN1.out.1
  have VN1 : Hid ((W.alloc (.cells #[.int .i64 lf, .int .i64 lt', .slice a2 bs.length cc2] 30)).drew.heap[pn]? = some _) := stays_block BV HN1.out.1
  have d1 : W.drew.cell? ⟨bn, 0, none⟩ = some (.pointer (some ⟨pn, 0, none⟩)) := a1
  have d2 : W.drew.cell? ⟨bk, 0, none⟩ = some (.int .i64 k) := a2'
  have d3 : W.drew.cell? ⟨w.heap.size, 0, none⟩ = some (.int .i64 lf) := k0
  have d4 : W.drew.cell? ⟨w.heap.size, 1, none⟩ = some (.int .i64 lt') := k1
  have d5 : W.drew.cell? ⟨w.heap.size, 2, none⟩ = some (.slice a2 bs.length cc2) := k2
  have e1 : (W.alloc (.cells #[.int .i64 lf, .int .i64 lt', .slice a2 bs.length cc2] 30)).drew.cell? ⟨bn, 0, none⟩ = some (.pointer (some ⟨pn, 0, none⟩)) := stays BV a1
  have e2 : (W.alloc (.cells #[.int .i64 lf, .int .i64 lt', .slice a2 bs.length cc2] 30)).drew.cell? ⟨bk, 0, none⟩ = some (.int .i64 k) := stays BV a2'
  have e3 : (W.alloc (.cells #[.int .i64 lf, .int .i64 lt', .slice a2 bs.length cc2] 30)).drew.cell? ⟨w.heap.size, 0, none⟩ = some (.int .i64 lf) := stays BV k0
  have e4 : (W.alloc (.cells #[.int .i64 lf, .int .i64 lt', .slice a2 bs.length cc2] 30)).drew.cell? ⟨w.heap.size, 1, none⟩ = some (.int .i64 lt') := stays BV k1
  have e5 : (W.alloc (.cells #[.int .i64 lf, .int .i64 lt', .slice a2 bs.length cc2] 30)).drew.cell? ⟨w.heap.size, 2, none⟩ = some (.slice a2 bs.length cc2) := stays BV k2
  have u3 : (W.alloc (.cells #[.int .i64 lf, .int .i64 lt', .slice a2 bs.length cc2] 30)).cell? ⟨pn, 1, none⟩ = some (.slice (some ⟨g, 0, none⟩) L.length cap) := stays (below_alloc _ _) n1
  have BVw := Lib.hid (onward BV BW.out)
  have BWd := Lib.hid (BW.out.drew)
  have y5 : W.heap.size ≠ g := by have := lt_of_block H31.out; omega
  have z6 : bn ≠ pn := ne_typed x1.out HN1.out.1 (by decide)
  have z7 : bk ≠ pn := ne_typed x2.out HN1.out.1 (by decide)
  have z5 : w.heap.size ≠ pn := by have := lt_of_block HN.out.1; omega
  have hone2 : Hid (∀ u ∈ cur.toList.take (L.length * 3), u.oneCell' = true) := by rw [Hid, H7.out]; exact hone.out
  have hlen : Hid ((L.eraseIdx k).length = L.length - 1) := List.length_eraseIdx_of_lt hk
  refine wp_region_held_drew (S := (fun W => W.cell? ⟨bn, 0, none⟩ = some (.pointer (some ⟨pn, 0, none⟩)) ∧ W.cell? ⟨bk, 0, none⟩ = some (.int .i64 k) ∧ W.cell? ⟨w.heap.size, 0, none⟩ = some (.int .i64 lf) ∧ W.cell? ⟨w.heap.size, 1, none⟩ = some (.int .i64 lt') ∧ W.cell? ⟨w.heap.size, 2, none⟩ = some (.slice a2 bs.length cc2))) (by kernel_rfl) ?_ (fun hHeld => ?_)
  · (try dsimp only)
    with_reducible exact ⟨d1, d2, d3, d4, d5⟩
  refine wpAnyH_take (i := 0) (oi := _) (v := ?_) rfl (by decide +kernel) (by decide +kernel) (by decide +kernel) (fun _ _ _ h => h) (Or.inl ⟨by rfl, ?_⟩) (by assumption) ?_
  rotate_left
  · (intro w hSw; (try dsimp only at hSw); go_simp; first | done | with_reducible rfl)
  (try simp only [Act.put, List.setIfInBounds_toArray, List.set_cons_zero, List.set_cons_succ])
  refine wpAnyH_take (i := 1) (oi := _) (v := ?_) rfl (by decide +kernel) (by decide +kernel) (by decide +kernel) (fun _ _ _ h => h) (Or.inl ⟨by rfl, ?_⟩) (by assumption) ?_
  rotate_left
  · (intro w hSw; (try dsimp only at hSw); go_simp; first | done | with_reducible rfl)
  (try simp only [Act.put, List.setIfInBounds_toArray, List.set_cons_zero, List.set_cons_succ])
  refine wpAnyH_take (i := 2) (oi := _) (v := ?_) rfl (by decide +kernel) (by decide +kernel) (by decide +kernel) (fun _ _ _ h => h) (Or.inl ⟨by rfl, ?_⟩) (by assumption) ?_
  rotate_left
  · (intro w hSw; (try dsimp only at hSw); go_simp; first | done | with_reducible rfl)
  (try simp only [Act.put, List.setIfInBounds_toArray, List.set_cons_zero, List.set_cons_succ])
  refine wpAnyH_take (i := 3) (oi := _) (v := ?_) rfl (by decide +kernel) (by decide +kernel) (by decide +kernel) (fun _ _ _ h => h) (Or.inl ⟨by rfl, ?_⟩) (by assumption) ?_
  rotate_left
  · (intro w hSw; (try dsimp only at hSw); go_simp; first | done | with_reducible rfl)
  (try simp only [Act.put, List.setIfInBounds_toArray, List.set_cons_zero, List.set_cons_succ])
  refine wpAnyH_take (i := 5) (oi := _) (v := ?_) rfl (by decide +kernel) (by decide +kernel) (by decide +kernel) (fun _ _ _ h => h) (Or.inl ⟨by rfl, ?_⟩) (by assumption) ?_
  rotate_left
  · (intro w hSw; (try dsimp only at hSw); go_simp; first | done | with_reducible rfl)
  (try simp only [Act.put, List.setIfInBounds_toArray, List.set_cons_zero, List.set_cons_succ])
  refine wpAnyH_take (i := 6) (oi := _) (v := ?_) rfl (by decide +kernel) (by decide +kernel) (by decide +kernel) (fun _ _ _ h => h) (Or.inl ⟨by rfl, ?_⟩) (by assumption) ?_
  rotate_left
  · (intro w hSw; (try dsimp only at hSw); go_simp; first | done | with_reducible rfl)
  (try simp only [Act.put, List.setIfInBounds_toArray, List.set_cons_zero, List.set_cons_succ])
  refine wpAnyH_take (i := 7) (oi := _) (v := ?_) rfl (by decide +kernel) (by decide +kernel) (by decide +kernel) (fun _ _ _ h => h) (Or.inl ⟨by rfl, ?_⟩) (by assumption) ?_
  rotate_left
  · (intro w hSw; (try dsimp only at hSw); go_simp; first | done | with_reducible rfl)
  (try simp only [Act.put, List.setIfInBounds_toArray, List.set_cons_zero, List.set_cons_succ])
  refine wpAnyH_take (i := 9) (oi := _) (v := ?_) rfl (by decide +kernel) (by decide +kernel) (by decide +kernel) (fun _ _ _ h => h) (Or.inl ⟨by rfl, ?_⟩) (by assumption) ?_
  rotate_left
  · (intro w hSw; (try dsimp only at hSw); go_simp; first | done | with_reducible rfl)
  (try simp only [Act.put, List.setIfInBounds_toArray, List.set_cons_zero, List.set_cons_succ])
  refine wpAnyH_ready (rs := [4, 10]) (by decide +kernel) (by simp) ?_
  refine AllReadyH.cons (o := _) rfl (fun K hK => ?_) ?_
  · go_simp
    refine hK.out _ _ ?_ (fun hHeld => ?_)
    · (try dsimp only)
      with_reducible exact ⟨d1, d2, d3, d4, d5⟩
    clear hK K
    (try simp only [Act.put, List.setIfInBounds_toArray, List.set_cons_zero, List.set_cons_succ])
    refine wpAnyH_ready (rs := [8, 10]) (by decide +kernel) (by simp) ?_
    refine AllReadyH.cons (o := _) rfl (fun K hK => ?_) ?_
    · (rw [if_pos (by rfl)]; go_simp; go_at_call 28; ((with_reducible refine (delete_any g L.length cap k cur _ H31d.out H5.out hk h4 h5 hone2.out).mono ?_); rintro e w2 hD; have HD := Lib.hid hD; obtain ⟨rfl, hk2, -, -⟩ := hD; have m1 := hk2.cell d1 y1; have m2 := hk2.cell d2 y2; have q0 := hk2.cell d3 y4; have q1 := hk2.cell d4 y4; have q2 := hk2.cell d5 y4; have HV : Hid (w2.heap[pn]? = some (.cells #[.int .i64 G, .slice (some ⟨g, 0, none⟩) L.length cap, .bool c0, .bool c1, .bool c2, .bool c3] 56 (0, 0))) := (hk2.block pn (lt_of_block VN0.out) y3).trans VN0.out; have HR0 : Hid (w2.ownsRow (pn + 1) 30 3 (.slice (some ⟨g, 0, none⟩) (L.length - 1) cap) (L.length - 1) ((L.eraseIdx k).flatMap Lt.cells)) := (by have := del_row hg H7.out H5.out h4 h5 hk HD.out; rw [hlen.out] at this; exact this); clear hk2))
      refine hK.out _ _ ?_ (fun hHeld => ?_)
      · (try dsimp only)
        with_reducible exact ⟨m1, m2, q0, q1, q2⟩
      clear hK K
      (try simp only [Act.put, List.setIfInBounds_toArray, List.set_cons_zero, List.set_cons_succ])
      refine wpAnyH_ready (rs := [10]) (by decide +kernel) (by simp) ?_
      refine AllReadyH.cons (o := _) rfl (fun K hK => ?_) ?_
      rotate_left
      · exact AllReadyH.nil
      go_simp
      refine hK.out _ _ ?_ (fun hHeld => ?_)
      · (try dsimp only)
        exact ⟨stays (below_alloc _ _) m1, stays (below_alloc _ _) m2, stays (below_alloc _ _) q0, stays (below_alloc _ _) q1, stays (below_alloc _ _) q2⟩
      clear hK K
      (try simp only [Act.put, List.setIfInBounds_toArray, List.set_cons_zero, List.set_cons_succ])
      refine wpAnyH_ready (rs := [11]) (by decide +kernel) (by simp) ?_
      refine AllReadyH.cons (o := _) rfl (fun K hK => ?_) ?_
      rotate_left
      · exact AllReadyH.nil
      (refine step_append_lies _ (by rfl) _ _ _ (by rfl) (pn + 1) 30 i0 _ 3 40 Try.underlying34 hi hz0 hz1 hz2 rfl (by decide) (.slice (some ⟨g, 0, none⟩) (L.length - 1) cap) (L.length - 1) ((L.eraseIdx k).flatMap Lt.cells) (by rfl) (HR0.out.alloc _) ⟨w2.heap.size, 0, none⟩ 1 1 [.int .i64 lf, .int .i64 lt', .slice a2 bs.length cc2] (by rfl) rfl (new_cells _ _ _) (one_lt _ _ _ _ _) (by decide) (by unfold maxLen; omega) (by omega) (base_ok HV.out (Below.refl _ _)) _ rfl ?_; intro g3 cap3 w3 hown3 hgrow3 hat3 hlt3; have HV3 := Lib.hid (grown_keeps (HR0.out.alloc _) hgrow3 (stays_block (below_alloc _ _) HV.out)); have hc3 := (net_cells HV3.out).2.2.1; have hf3 : w3.frozen? ⟨pn, 1, none⟩ = false := free_of_row HV3.out; have k3 : Kept (· = g) _ w3 := Kept.of_grown hgrow3 (fun k hk => by injection hk with hk; exact hk.symm); have HZ := Lib.hid (hold_close hBp HN.out HL.out HB.out BWd.out hk HD.out hown3 (below_alloc _ _) hgrow3 hat3 HV3.out); clear hown3 hgrow3 hat3)
      refine hK.out _ _ ?_ (fun hHeld => ?_)
      · (try dsimp only)
        exact ⟨k3.cell (stays (below_alloc _ _) m1) y1, k3.cell (stays (below_alloc _ _) m2) y2, k3.cell (stays (below_alloc _ _) q0) y4, k3.cell (stays (below_alloc _ _) q1) y4, k3.cell (stays (below_alloc _ _) q2) y4⟩
      clear hK K
      (try simp only [Act.put, List.setIfInBounds_toArray, List.set_cons_zero, List.set_cons_succ])
      refine wpAnyH_take (i := 12) (oi := _) (v := ?_) rfl (by decide +kernel) (by decide +kernel) (by decide +kernel) (fun _ _ _ h => h) (Or.inl ⟨by rfl, ?_⟩) (by assumption) ?_
      rotate_left
      · (intro w hSw; (try dsimp only at hSw); go_simp; first | done | with_reducible rfl)
      (try simp only [Act.put, List.setIfInBounds_toArray, List.set_cons_zero, List.set_cons_succ])
      refine wpAnyH_take (i := 13) (oi := _) (v := ?_) rfl (by decide +kernel) (by decide +kernel) (by decide +kernel) (fun _ _ _ h => h) (Or.inl ⟨by rfl, ?_⟩) (by assumption) ?_
      rotate_left
      · (intro w hSw; (try dsimp only at hSw); go_simp; first | done | with_reducible rfl)
      (try simp only [Act.put, List.setIfInBounds_toArray, List.set_cons_zero, List.set_cons_succ])
      refine wpAnyH_ready (rs := [14]) (by decide +kernel) (by simp) ?_
      refine AllReadyH.cons (o := _) rfl (fun K hK => ?_) ?_
      rotate_left
      · exact AllReadyH.nil
      go_simp
      refine hK.out _ _ ?_ (fun hHeld => ?_)
      · (try dsimp only)
        (go_split_ands; with_reducible exact ⟨set_other (by assumption) z6, set_other (by assumption) z7, set_other (by assumption) z5, set_other (by assumption) z5, set_other (by assumption) z5⟩)
      clear hK K
      (try simp only [Act.put, List.setIfInBounds_toArray, List.set_cons_zero, List.set_cons_succ])
      refine wpAnyH_done (by decide +kernel) ?_ _
      go_wp2
      go_ret
      exact ⟨rfl, HZ.out⟩
    refine AllReadyH.cons (o := _) rfl (fun K hK => ?_) ?_
    · go_simp
      refine hK.out _ _ ?_ (fun hHeld => ?_)
      · (try dsimp only)
        with_reducible exact ⟨e1, e2, e3, e4, e5⟩
      clear hK K
      (try simp only [Act.put, List.setIfInBounds_toArray, List.set_cons_zero, List.set_cons_succ])
      refine wpAnyH_ready (rs := [8]) (by decide +kernel) (by simp) ?_
      refine AllReadyH.cons (o := _) rfl (fun K hK => ?_) ?_
      rotate_left
      · exact AllReadyH.nil
      (rw [if_pos (by rfl)]; go_simp; go_at_call 28; ((with_reducible refine (delete_any g L.length cap k cur _ H31v.out H5.out hk h4 h5 hone2.out).mono ?_); rintro e w2 hD; have HD := Lib.hid hD; obtain ⟨rfl, hk2, -, -⟩ := hD; have m1 := hk2.cell e1 y1; have m2 := hk2.cell e2 y2; have q0 := hk2.cell e3 y4; have q1 := hk2.cell e4 y4; have q2 := hk2.cell e5 y4; have HV : Hid (w2.heap[pn]? = some (.cells #[.int .i64 G, .slice (some ⟨g, 0, none⟩) L.length cap, .bool c0, .bool c1, .bool c2, .bool c3] 56 (0, 0))) := (hk2.block pn (lt_of_block VN1.out) y3).trans VN1.out; have NB2 : Hid (w2.heap[W.heap.size]? = some (.cells #[.int .i64 lf, .int .i64 lt', .slice a2 bs.length cc2] 30)) := (hk2.block _ (lt_of_block NB.out) y5).trans NB.out; have HR0 : Hid (w2.ownsRow (pn + 1) 30 3 (.slice (some ⟨g, 0, none⟩) (L.length - 1) cap) (L.length - 1) ((L.eraseIdx k).flatMap Lt.cells)) := (by have := del_row hg H7.out H5.out h4 h5 hk HD.out; rw [hlen.out] at this; exact this); clear hk2))
      refine hK.out _ _ ?_ (fun hHeld => ?_)
      · (try dsimp only)
        with_reducible exact ⟨m1, m2, q0, q1, q2⟩
      clear hK K
      (try simp only [Act.put, List.setIfInBounds_toArray, List.set_cons_zero, List.set_cons_succ])
      refine wpAnyH_ready (rs := [11]) (by decide +kernel) (by simp) ?_
      refine AllReadyH.cons (o := _) rfl (fun K hK => ?_) ?_
      rotate_left
      · exact AllReadyH.nil
      (refine step_append_lies _ (by rfl) _ _ _ (by rfl) (pn + 1) 30 i0 _ 3 40 Try.underlying34 hi hz0 hz1 hz2 rfl (by decide) (.slice (some ⟨g, 0, none⟩) (L.length - 1) cap) (L.length - 1) ((L.eraseIdx k).flatMap Lt.cells) (by rfl) HR0.out ⟨W.heap.size, 0, none⟩ 1 1 [.int .i64 lf, .int .i64 lt', .slice a2 bs.length cc2] (by rfl) rfl (World.news_of_block NB2.out) (one_lt _ _ _ _ _) (by decide) (by unfold maxLen; omega) (by omega) (lt_of_block HV.out) _ rfl ?_; intro g3 cap3 w3 hown3 hgrow3 hat3 hlt3; have HV3 := Lib.hid (grown_keeps HR0.out hgrow3 HV.out); have hc3 := (net_cells HV3.out).2.2.1; have hf3 : w3.frozen? ⟨pn, 1, none⟩ = false := free_of_row HV3.out; have k3 : Kept (· = g) _ w3 := Kept.of_grown hgrow3 (fun k hk => by injection hk with hk; exact hk.symm); have HZ := Lib.hid (hold_close hBp HN.out HL.out HB.out BVw.out hk HD.out hown3 (Below.refl _ _) hgrow3 hat3 HV3.out); clear hown3 hgrow3 hat3)
      refine hK.out _ _ ?_ (fun hHeld => ?_)
      · (try dsimp only)
        exact ⟨k3.cell m1 y1, k3.cell m2 y2, k3.cell q0 y4, k3.cell q1 y4, k3.cell q2 y4⟩
      clear hK K
      (try simp only [Act.put, List.setIfInBounds_toArray, List.set_cons_zero, List.set_cons_succ])
      refine wpAnyH_take (i := 12) (oi := _) (v := ?_) rfl (by decide +kernel) (by decide +kernel) (by decide +kernel) (fun _ _ _ h => h) (Or.inl ⟨by rfl, ?_⟩) (by assumption) ?_
      rotate_left
      · (intro w hSw; (try dsimp only at hSw); go_simp; first | done | with_reducible rfl)
      (try simp only [Act.put, List.setIfInBounds_toArray, List.set_cons_zero, List.set_cons_succ])
      refine wpAnyH_take (i := 13) (oi := _) (v := ?_) rfl (by decide +kernel) (by decide +kernel) (by decide +kernel) (fun _ _ _ h => h) (Or.inl ⟨by rfl, ?_⟩) (by assumption) ?_
      rotate_left
      · (intro w hSw; (try dsimp only at hSw); go_simp; first | done | with_reducible rfl)
      (try simp only [Act.put, List.setIfInBounds_toArray, List.set_cons_zero, List.set_cons_succ])
      refine wpAnyH_ready (rs := [14]) (by decide +kernel) (by simp) ?_
      refine AllReadyH.cons (o := _) rfl (fun K hK => ?_) ?_
      rotate_left
      · exact AllReadyH.nil
      go_simp
      refine hK.out _ _ ?_ (fun hHeld => ?_)
      · (try dsimp only)
        (go_split_ands; with_reducible exact ⟨set_other (by assumption) z6, set_other (by assumption) z7, set_other (by assumption) z5, set_other (by assumption) z5, set_other (by assumption) z5⟩)
      clear hK K
      (try simp only [Act.put, List.setIfInBounds_toArray, List.set_cons_zero, List.set_cons_succ])
      refine wpAnyH_done (by decide +kernel) ?_ _
      go_wp2
      go_ret
      exact ⟨rfl, HZ.out⟩
    exact AllReadyH.nil
  refine AllReadyH.cons (o := _) rfl (fun K hK => ?_) ?_
  · go_simp
    refine hK.out _ _ ?_ (fun hHeld => ?_)
    · (try dsimp only)
      with_reducible exact ⟨e1, e2, e3, e4, e5⟩
    clear hK K
    (try simp only [Act.put, List.setIfInBounds_toArray, List.set_cons_zero, List.set_cons_succ])
    refine wpAnyH_ready (rs := [4]) (by decide +kernel) (by simp) ?_
    refine AllReadyH.cons (o := _) rfl (fun K hK => ?_) ?_
    rotate_left
    · exact AllReadyH.nil
    go_simp
    refine hK.out _ _ ?_ (fun hHeld => ?_)
    · (try dsimp only)
      with_reducible exact ⟨e1, e2, e3, e4, e5⟩
    clear hK K
    (try simp only [Act.put, List.setIfInBounds_toArray, List.set_cons_zero, List.set_cons_succ])
    refine wpAnyH_ready (rs := [8]) (by decide +kernel) (by simp) ?_
    refine AllReadyH.cons (o := _) rfl (fun K hK => ?_) ?_
    rotate_left
    · exact AllReadyH.nil
    (rw [if_pos (by rfl)]; go_simp; go_at_call 28; ((with_reducible refine (delete_any g L.length cap k cur _ H31v.out H5.out hk h4 h5 hone2.out).mono ?_); rintro e w2 hD; have HD := Lib.hid hD; obtain ⟨rfl, hk2, -, -⟩ := hD; have m1 := hk2.cell e1 y1; have m2 := hk2.cell e2 y2; have q0 := hk2.cell e3 y4; have q1 := hk2.cell e4 y4; have q2 := hk2.cell e5 y4; have HV : Hid (w2.heap[pn]? = some (.cells #[.int .i64 G, .slice (some ⟨g, 0, none⟩) L.length cap, .bool c0, .bool c1, .bool c2, .bool c3] 56 (0, 0))) := (hk2.block pn (lt_of_block VN1.out) y3).trans VN1.out; have NB2 : Hid (w2.heap[W.heap.size]? = some (.cells #[.int .i64 lf, .int .i64 lt', .slice a2 bs.length cc2] 30)) := (hk2.block _ (lt_of_block NB.out) y5).trans NB.out; have HR0 : Hid (w2.ownsRow (pn + 1) 30 3 (.slice (some ⟨g, 0, none⟩) (L.length - 1) cap) (L.length - 1) ((L.eraseIdx k).flatMap Lt.cells)) := (by have := del_row hg H7.out H5.out h4 h5 hk HD.out; rw [hlen.out] at this; exact this); clear hk2))
    refine hK.out _ _ ?_ (fun hHeld => ?_)
    · (try dsimp only)
      with_reducible exact ⟨m1, m2, q0, q1, q2⟩
    clear hK K
    (try simp only [Act.put, List.setIfInBounds_toArray, List.set_cons_zero, List.set_cons_succ])
    refine wpAnyH_ready (rs := [11]) (by decide +kernel) (by simp) ?_
    refine AllReadyH.cons (o := _) rfl (fun K hK => ?_) ?_
    rotate_left
    · exact AllReadyH.nil
    (refine step_append_lies _ (by rfl) _ _ _ (by rfl) (pn + 1) 30 i0 _ 3 40 Try.underlying34 hi hz0 hz1 hz2 rfl (by decide) (.slice (some ⟨g, 0, none⟩) (L.length - 1) cap) (L.length - 1) ((L.eraseIdx k).flatMap Lt.cells) (by rfl) HR0.out ⟨W.heap.size, 0, none⟩ 1 1 [.int .i64 lf, .int .i64 lt', .slice a2 bs.length cc2] (by rfl) rfl (World.news_of_block NB2.out) (one_lt _ _ _ _ _) (by decide) (by unfold maxLen; omega) (by omega) (lt_of_block HV.out) _ rfl ?_; intro g3 cap3 w3 hown3 hgrow3 hat3 hlt3; have HV3 := Lib.hid (grown_keeps HR0.out hgrow3 HV.out); have hc3 := (net_cells HV3.out).2.2.1; have hf3 : w3.frozen? ⟨pn, 1, none⟩ = false := free_of_row HV3.out; have k3 : Kept (· = g) _ w3 := Kept.of_grown hgrow3 (fun k hk => by injection hk with hk; exact hk.symm); have HZ := Lib.hid (hold_close hBp HN.out HL.out HB.out BVw.out hk HD.out hown3 (Below.refl _ _) hgrow3 hat3 HV3.out); clear hown3 hgrow3 hat3)
    refine hK.out _ _ ?_ (fun hHeld => ?_)
    · (try dsimp only)
      exact ⟨k3.cell m1 y1, k3.cell m2 y2, k3.cell q0 y4, k3.cell q1 y4, k3.cell q2 y4⟩
    clear hK K
    (try simp only [Act.put, List.setIfInBounds_toArray, List.set_cons_zero, List.set_cons_succ])
    refine wpAnyH_take (i := 12) (oi := _) (v := ?_) rfl (by decide +kernel) (by decide +kernel) (by decide +kernel) (fun _ _ _ h => h) (Or.inl ⟨by rfl, ?_⟩) (by assumption) ?_
    rotate_left
    · (intro w hSw; (try dsimp only at hSw); go_simp; first | done | with_reducible rfl)
    (try simp only [Act.put, List.setIfInBounds_toArray, List.set_cons_zero, List.set_cons_succ])
    refine wpAnyH_take (i := 13) (oi := _) (v := ?_) rfl (by decide +kernel) (by decide +kernel) (by decide +kernel) (fun _ _ _ h => h) (Or.inl ⟨by rfl, ?_⟩) (by assumption) ?_
    rotate_left
    · (intro w hSw; (try dsimp only at hSw); go_simp; first | done | with_reducible rfl)
    (try simp only [Act.put, List.setIfInBounds_toArray, List.set_cons_zero, List.set_cons_succ])
    refine wpAnyH_ready (rs := [14]) (by decide +kernel) (by simp) ?_
    refine AllReadyH.cons (o := _) rfl (fun K hK => ?_) ?_
    rotate_left
    · exact AllReadyH.nil
    go_simp
    refine hK.out _ _ ?_ (fun hHeld => ?_)
    · (try dsimp only)
      (go_split_ands; with_reducible exact ⟨set_other (by assumption) z6, set_other (by assumption) z7, set_other (by assumption) z5, set_other (by assumption) z5, set_other (by assumption) z5⟩)
    clear hK K
    (try simp only [Act.put, List.setIfInBounds_toArray, List.set_cons_zero, List.set_cons_succ])
    refine wpAnyH_done (by decide +kernel) ?_ _
    go_wp2
    go_ret
    exact ⟨rfl, HZ.out⟩
  exact AllReadyH.nil
end Go.Proofs.Ytgkefciojoffgaa
