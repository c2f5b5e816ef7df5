/- The reference's Send. (Printed by gen_net.py.) -/
import Derived.Test.YtgkefciojoffgaaNeS
namespace Go.Proofs.Ytgkefciojoffgaa
open Go.RowKit
set_option linter.unusedVariables false
set_option linter.unusedSimpArgs false
attribute [local go_sem ↓] Go.wp_at_zero Go.wp_at_succ
theorem rsend_close {B rp gb : Nat} {G : Int} {v : Value} {L : List Lt} {c1 c2 c3 : Bool} {f t : Int} {bv : Value} {bs : List UInt8} {w V w3 : World} {g cap : Nat} (hBp : B ≤ rp) (hBg : B ≤ gb) (HN : RefV w rp gb G v L c1 c2 c3) (HL : LtsAt B w L) (B2 : Below w.heap.size w V) (h2 : BytesAt B w bv bs)
    (hown : w3.ownsRow (rp + 1) 30 3 (.slice (some ⟨g, 0, none⟩) (L.length + 1) cap) (L.length + 1) (L.flatMap Lt.cells ++ [.int .i64 f, .int .i64 t, bv])) (hg : V.grownBy w3 v.ownBlock) (hat : v.ownBlock = some g ∨ g = V.heap.size)
    (HV3 : w3.heap[rp]? = some (.cells #[.int .i64 G, v, .slice (some ⟨gb, 0, none⟩) 4 4] 49 (0, 0))) (HG3 : w3.heap[gb]? = some (.cells #[.bool false, .bool c1, .bool c2, .bool c3] 4 (0, 0))) :
    RefEnd B rp gb G v (L ++ [⟨f, t, bv, bs⟩]) c1 c2 c3 w (w3.setCell ⟨rp, 1, none⟩ (.slice (some ⟨g, 0, none⟩) (L.length + 1) cap)) := by
  have hk3 : Kept (MineR rp gb v) V w3 := Kept.of_grown hg fun k hk => .inr (.inr hk)
  have hk : Kept (MineR rp gb v) w (w3.setCell ⟨rp, 1, none⟩ (.slice (some ⟨g, 0, none⟩) (L.length + 1) cap)) := ((Kept.of_below B2 _).trans hk3).trans (Kept.setCell _ _ _ (.inl rfl))
  have hst : Stp B w (w3.setCell ⟨rp, 1, none⟩ (.slice (some ⟨g, 0, none⟩) (L.length + 1) cap)) := HN.stp hBp hBg hk
  have hne : gb ≠ rp := Ne.symm (ne_typed HN.1 HN.2.1 (by decide))
  have hk4 : Kept (· = rp) w3 (w3.setCell ⟨rp, 1, none⟩ (.slice (some ⟨g, 0, none⟩) (L.length + 1) cap)) := Kept.setCell _ _ _ rfl
  refine ⟨.slice (some ⟨g, 0, none⟩) (L.length + 1) cap, ⟨set_block HV3, (hk4.block gb (lt_of_block HG3) hne).trans HG3, ?_⟩, ?_, hk, ?_⟩
  · have h1 := ownsRow_setCell_other (a := ⟨rp, 1, none⟩) hown (fun e => by have := (hown.lt _ e).1; exact absurd this (by show ¬ rp + 1 ≤ rp; omega)) (.slice (some ⟨g, 0, none⟩) (L.length + 1) cap)
    rw [List.flatMap_append, List.length_append]
    exact h1
  · intro l hl
    rcases List.mem_append.1 hl with h | h
    · exact (HL l h).step hst
    · simp at h; subst h
      exact h2.step hst
  · rcases hat with h | h
    · exact .inl (by rw [h]; rfl)
    · refine .inr fun k hk => ?_
      have e : g = k := by simpa [Value.ownBlock] using hk
      have := B2.size
      omega
set_option maxHeartbeats 2000000 in
set_option maxRecDepth 1000000 in
theorem rsend_no (B rp gb : Nat) (G : Int) (v : Value) (L : List Lt) (c1 c2 c3 : Bool) (f t : Int) (bv : Value) (bs : List UInt8) (w : World) (hN : RefV w rp gb G v L c1 c2 c3) (hB : BytesAt B w bv bs) (hf : i64 f) (ht : i64 t) (hG : 1 ≤ G ∧ G ≤ 3) (hs : sendI G f t bs.length L.length ≠ 0) (hll : L.length ≤ 4096) (hbl : bs.length ≤ 9223372036854775807) :
    Calls Try.prog 20 #[.pointer (some ⟨rp, 0, none⟩), .agg #[.int .i64 f, .int .i64 t, bv]] w fun e w' => e = .returned (.int .i64 (sendI G f t bs.length L.length)) ∧ Below w.heap.size w w' := by
  obtain ⟨z0, n0, n1, n2⟩ := three_cells hN.1
  obtain ⟨a, c, rfl⟩ := net_form hN.2.2
  obtain ⟨a2, c2', rfl⟩ := hB.form
  obtain ⟨s, hs0⟩ : ∃ s, sendI G f t bs.length L.length = s := ⟨_, rfl⟩
  rw [hs0] at hs ⊢
  have HS0 := Lib.hid hs0
  have hb0 := below_alloc w (.cells #[.int .i64 f, .int .i64 t, .slice a2 bs.length c2'] 30)
  have BW := Lib.hid hb0
  have G0 := heap_alloc_new w (.cells #[.int .i64 f, .int .i64 t, .slice a2 bs.length c2'] 30)
  obtain ⟨z1, k0, k1, k2⟩ := three_cells G0
  have n0a := stays hb0 n0
  have n1a := stays hb0 n1
  have hgg := Lib.hid (rgate_gate (f := f) (t := t) hG hf ht)
  clear hs0 hN hB n0 n1 n2 hb0
  go_enter Try.func20, Try.ntmps20
  go_wp2_with fail
  generalize w.alloc (.cells #[.int .i64 f, .int .i64 t, .slice a2 bs.length c2'] 30) = W at *
  refine (rgate_any rp G f t a2 bs.length c2' _ n0a).mono ?_
  rintro e w1 ⟨rfl, hb⟩
  have B1 := Lib.hid (onward hb BW.out)
  have G1 := stays_block hb G0
  obtain ⟨z2, k0', k1', k2'⟩ := three_cells G1
  have n1' := stays hb n1a
  clear hb n0a n1a k0 k1 k2 G0 G1 z1
  cases hg : gateB G f t
  · have hs1 : s = 1 := by have := HS0.out; unfold sendI at this; rw [if_pos hg] at this; exact this.symm
    subst hs1
    rw [hgg.out.1.2 hg]
    clear hg hgg
    go_wp2_with fail
    go_ret
    exact ⟨rfl, B1.out⟩
  · have hne : (rgate G f t == 0) = false := by
      rw [beq_eq_false_iff_ne]; intro e; rw [hgg.out.1.1 e] at hg; cases hg
    by_cases h1 : 4096 < bs.length
    · have hs1 : s = 2 := by have := HS0.out; unfold sendI at this; rw [if_neg (by rw [hg]; simp), if_pos h1] at this; exact this.symm
      subst hs1
      clear hg hgg
      go_wp2_with fail
      go_ret
      exact ⟨rfl, B1.out⟩
    · by_cases h2 : 4096 ≤ L.length
      · have hs1 : s = 3 := by have := HS0.out; unfold sendI at this; rw [if_neg (by rw [hg]; simp), if_neg h1, if_pos h2] at this; exact this.symm
        subst hs1
        clear hg hgg
        go_wp2_with fail
        go_ret
        exact ⟨rfl, B1.out⟩
      · have := HS0.out
        unfold sendI at this
        rw [if_neg (by rw [hg]; simp), if_neg h1, if_neg h2] at this
        exact absurd this.symm hs
set_option maxHeartbeats 4000000 in
set_option maxRecDepth 10000000 in
theorem rsend_yes (B rp gb : Nat) (G : Int) (v : Value) (L : List Lt) (c1 c2 c3 : Bool) (f t : Int) (bv : Value) (bs : List UInt8) (w : World) (hBp : B ≤ rp) (hBg : B ≤ gb) (hN : RefV w rp gb G v L c1 c2 c3) (hL : LtsAt B w L) (hB : BytesAt B w bv bs) (hf : i64 f) (ht : i64 t) (hG : 1 ≤ G ∧ G ≤ 3) (hs : sendI G f t bs.length L.length = 0) :
    Calls Try.prog 20 #[.pointer (some ⟨rp, 0, none⟩), .agg #[.int .i64 f, .int .i64 t, bv]] w fun e w' => e = .returned (.int .i64 0) ∧ RefEnd B rp gb G v (L ++ [⟨f, t, bv, bs⟩]) c1 c2 c3 w w' := by
  obtain ⟨hg, hbl, hll⟩ := sendI_good hs
  obtain ⟨z0, n0, n1, n2⟩ := three_cells hN.1
  obtain ⟨a, c, rfl⟩ := net_form hN.2.2
  obtain ⟨a2, c2', rfl⟩ := hB.form
  have hb0 := below_alloc w (.cells #[.int .i64 f, .int .i64 t, .slice a2 bs.length c2'] 30)
  have BW := Lib.hid hb0
  have G0 := heap_alloc_new w (.cells #[.int .i64 f, .int .i64 t, .slice a2 bs.length c2'] 30)
  have n0a := stays hb0 n0
  have n1a := stays hb0 n1
  have hgg := rgate_gate (f := f) (t := t) hG hf ht
  have hne : (rgate G f t == 0) = false := by
    rw [beq_eq_false_iff_ne]; intro e; rw [hgg.1.1 e] at hg; cases hg
  have HN := Lib.hid hN
  have HB := Lib.hid hB
  have HL := Lib.hid hL
  have hnw : rp ≠ w.heap.size := by omega
  clear hs hN hB hL n0 n1 n2 hb0 hgg hg
  obtain ⟨i0, hi, hz0, hz1, hz2⟩ := info_parts infoL
  go_enter Try.func20, Try.ntmps20
  go_wp2_with fail
  generalize w.alloc (.cells #[.int .i64 f, .int .i64 t, .slice a2 bs.length c2'] 30) = W at *
  refine (rgate_any rp G f t a2 bs.length c2' _ n0a).mono ?_
  rintro e w1 ⟨rfl, hb⟩
  have B1 := Lib.hid (onward hb BW.out)
  have G1 := stays_block hb G0
  obtain ⟨z2, k0, k1, k2⟩ := three_cells G1
  have n1' := stays hb n1a
  clear hb n0a n1a G0 G1
  generalize rgate G f t = rg at *
  go_wp2_with fail
  have ba := below_alloc w1 (.cells #[.int .i64 f, .int .i64 t, .slice a2 bs.length c2'] 30)
  have BV : Hid (Below w.heap.size w (w1.alloc (.cells #[.int .i64 f, .int .i64 t, .slice a2 bs.length c2'] 30)).drew) := (onward ba B1.out).drew
  have d0 : w1.drew.cell? ⟨w.heap.size, 0, none⟩ = some (.int .i64 f) := k0
  have d1 : w1.drew.cell? ⟨w.heap.size, 1, none⟩ = some (.int .i64 t) := k1
  have d2 : w1.drew.cell? ⟨w.heap.size, 2, none⟩ = some (.slice a2 bs.length c2') := k2
  have e0 : (w1.alloc (.cells #[.int .i64 f, .int .i64 t, .slice a2 bs.length c2'] 30)).drew.cell? ⟨w.heap.size, 0, none⟩ = some (.int .i64 f) := stays ba.drew k0
  have e1 : (w1.alloc (.cells #[.int .i64 f, .int .i64 t, .slice a2 bs.length c2'] 30)).drew.cell? ⟨w.heap.size, 1, none⟩ = some (.int .i64 t) := stays ba.drew k1
  have e2 : (w1.alloc (.cells #[.int .i64 f, .int .i64 t, .slice a2 bs.length c2'] 30)).drew.cell? ⟨w.heap.size, 2, none⟩ = some (.slice a2 bs.length c2') := stays ba.drew k2
  have u1 : (w1.alloc (.cells #[.int .i64 f, .int .i64 t, .slice a2 bs.length c2'] 30)).cell? ⟨rp, 1, none⟩ = some (.slice a L.length c) := stays ba n1'
  have NB : Hid ((w1.alloc (.cells #[.int .i64 f, .int .i64 t, .slice a2 bs.length c2'] 30)).drew.heap[w1.heap.size]? = some (.cells #[.int .i64 f, .int .i64 t, .slice a2 bs.length c2'] 30)) := heap_alloc_new w1 _
  have RV : Hid (RefV (w1.alloc (.cells #[.int .i64 f, .int .i64 t, .slice a2 bs.length c2'] 30)).drew rp gb G (.slice a L.length c) L c1 c2 c3) := HN.out.below BV.out
  have hov : ∀ k, (Value.slice a L.length c).ownBlock = some k → k < w.heap.size := fun k hk => (HN.out.2.2.lt k hk).2
  have OV := Lib.hid hov
  have hgv : ∀ k, (Value.slice a L.length c).ownBlock = some k → k ≠ gb := fun k hk e => by
    obtain ⟨_, cs, hcs⟩ := own_typed HN.out.2.2 hk
    exact ne_typed HN.out.2.1 hcs (by decide) e.symm
  have GV := Lib.hid hgv
  clear hov hgv
  have hll' : L.length + 1 ≤ 5000 := by omega
  refine wp_region_held_drew (S := (fun W => W.cell? ⟨w.heap.size, 0, none⟩ = some (.int .i64 f) ∧ W.cell? ⟨w.heap.size, 1, none⟩ = some (.int .i64 t) ∧ W.cell? ⟨w.heap.size, 2, none⟩ = some (.slice a2 bs.length c2'))) (by kernel_rfl) ?_ (fun hHeld => ?_)
  · (try dsimp only)
    with_reducible exact ⟨d0, d1, d2⟩
  refine Plan.start (plan := [0, 1, 2, 3, 5]) (fuel := 6) (by decide +kernel) (by assumption) ?_
  refine Plan.free (i := 0) (ds := some 19) (v := ?_) rfl rfl rfl ?_ (fun _ _ _ h => h) ?_
  rotate_left
  · (intro w hSw; (try dsimp only at hSw); go_simp; first | done | with_reducible rfl)
  (try simp only [Act.put, List.setIfInBounds_toArray, List.set_cons_zero, List.set_cons_succ])
  refine Plan.free (i := 1) (ds := some 20) (v := ?_) rfl rfl rfl ?_ (fun _ _ _ h => h) ?_
  rotate_left
  · (intro w hSw; (try dsimp only at hSw); go_simp; first | done | with_reducible rfl)
  (try simp only [Act.put, List.setIfInBounds_toArray, List.set_cons_zero, List.set_cons_succ])
  refine Plan.free (i := 2) (ds := some 21) (v := ?_) rfl rfl rfl ?_ (fun _ _ _ h => h) ?_
  rotate_left
  · (intro w hSw; (try dsimp only at hSw); go_simp; first | done | with_reducible rfl)
  (try simp only [Act.put, List.setIfInBounds_toArray, List.set_cons_zero, List.set_cons_succ])
  refine Plan.free (i := 3) (ds := some 22) (v := ?_) rfl rfl rfl ?_ (fun _ _ _ h => h) ?_
  rotate_left
  · (intro w hSw; (try dsimp only at hSw); go_simp; first | done | with_reducible rfl)
  (try simp only [Act.put, List.setIfInBounds_toArray, List.set_cons_zero, List.set_cons_succ])
  refine Plan.free (i := 5) (ds := some 24) (v := ?_) rfl rfl rfl ?_ (fun _ _ _ h => h) ?_
  rotate_left
  · (intro w hSw; (try dsimp only at hSw); go_simp; first | done | with_reducible rfl)
  (try simp only [Act.put, List.setIfInBounds_toArray, List.set_cons_zero, List.set_cons_succ])
  refine Plan.stop (fun hHeld => ?_)
  refine wpAnyH_ready (rs := [4, 6]) (by decide +kernel) (by simp) ?_
  refine AllReadyH.cons (o := _) rfl ?_ ?_
  · intro K hK
    rw [if_pos (wanted_none (by rfl))]
    (go_simp)
    refine hK.out _ _ ?_ (fun hHeld => ?_)
    · (try dsimp only)
      with_reducible exact ⟨d0, d1, d2⟩
    clear hK K
    (try simp only [Act.put, List.setIfInBounds_toArray, List.set_cons_zero, List.set_cons_succ])
    refine wpAnyH_ready (rs := [6]) (by decide +kernel) (by simp) ?_
    refine AllReadyH.cons (o := _) rfl ?_ AllReadyH.nil
    intro K hK
    rw [if_pos (wanted_none (by rfl))]
    (go_simp)
    refine hK.out _ _ ?_ (fun hHeld => ?_)
    · (try dsimp only)
      with_reducible exact ⟨e0, e1, e2⟩
    clear hK K
    (try simp only [Act.put, List.setIfInBounds_toArray, List.set_cons_zero, List.set_cons_succ])
    refine wpAnyH_ready (rs := [7]) (by decide +kernel) (by simp) ?_
    refine AllReadyH.cons (o := _) rfl ?_ AllReadyH.nil
    intro K hK
    (refine step_append_lies _ (by rfl) _ _ _ (by rfl) (rp + 1) 30 i0 _ 3 40 Try.underlying34 hi hz0 hz1 hz2 rfl (by decide) (.slice a L.length c) L.length (L.flatMap Lt.cells) (by rfl) RV.out.2.2 ⟨w1.heap.size, 0, none⟩ 1 1 [.int .i64 f, .int .i64 t, .slice a2 bs.length c2'] (by rfl) rfl (World.news_of_block NB.out) (one_lt _ _ _ _ _) (by decide) (by unfold maxLen; omega) (by omega) (lt_of_block RV.out.1) _ rfl ?_; intro g cap w3 hown3 hgrow3 hat3 hlt3; have HV3 := Lib.hid (grown_keeps RV.out.2.2 hgrow3 RV.out.1); have HG3 : Hid (w3.heap[gb]? = some (.cells #[.bool false, .bool c1, .bool c2, .bool c3] 4 (0, 0))) := (hgrow3.block gb (lt_of_block RV.out.2.1) (fun e => GV.out gb e.symm rfl)).trans RV.out.2.1; have hc3 := (three_cells HV3.out).2.2.1; have hf3 : w3.frozen? ⟨rp, 1, none⟩ = false := free_of_row HV3.out; have k3 : Kept (fun k => k < w.heap.size) _ w3 := Kept.of_grown hgrow3 (fun k hk => OV.out k hk); have m0 := k3.cell e0 (Nat.lt_irrefl _); have m1 := k3.cell e1 (Nat.lt_irrefl _); have m2 := k3.cell e2 (Nat.lt_irrefl _); have HZ := Lib.hid (rsend_close hBp hBg HN.out HL.out BV.out HB.out hown3 hgrow3 hat3 HV3.out HG3.out); clear hown3 hgrow3 hat3 k3)
    refine hK.out _ _ ?_ (fun hHeld => ?_)
    · (try dsimp only)
      with_reducible exact ⟨m0, m1, m2⟩
    clear hK K
    (try simp only [Act.put, List.setIfInBounds_toArray, List.set_cons_zero, List.set_cons_succ])
    refine Plan.start (plan := [8, 9]) (fuel := 1) (by decide +kernel) (by assumption) ?_
    refine Plan.free (i := 8) (ds := some 27) (v := ?_) rfl rfl rfl ?_ (fun _ _ _ h => h) ?_
    rotate_left
    · (intro w hSw; (try dsimp only at hSw); go_simp; first | done | with_reducible rfl)
    (try simp only [Act.put, List.setIfInBounds_toArray, List.set_cons_zero, List.set_cons_succ])
    refine Plan.free (i := 9) (ds := some 28) (v := ?_) rfl rfl rfl ?_ (fun _ _ _ h => h) ?_
    rotate_left
    · (intro w hSw; (try dsimp only at hSw); go_simp; first | done | with_reducible rfl)
    (try simp only [Act.put, List.setIfInBounds_toArray, List.set_cons_zero, List.set_cons_succ])
    refine Plan.stop (fun hHeld => ?_)
    refine wpAnyH_ready (rs := [10]) (by decide +kernel) (by simp) ?_
    refine AllReadyH.cons (o := _) rfl ?_ AllReadyH.nil
    intro K hK
    rw [if_pos (wanted_none (by rfl))]
    (go_simp)
    refine hK.out _ _ ?_ (fun hHeld => ?_)
    · (try dsimp only)
      with_reducible exact ⟨set_other m0 (Ne.symm hnw), set_other m1 (Ne.symm hnw), set_other m2 (Ne.symm hnw)⟩
    clear hK K
    (try simp only [Act.put, List.setIfInBounds_toArray, List.set_cons_zero, List.set_cons_succ])
    refine wpAnyH_done (by decide +kernel) ?_ _
    go_wp2
    go_ret
    exact ⟨rfl, HZ.out⟩
  refine AllReadyH.cons (o := _) rfl ?_ ?_
  · intro K hK
    rw [if_pos (wanted_none (by rfl))]
    (go_simp)
    refine hK.out _ _ ?_ (fun hHeld => ?_)
    · (try dsimp only)
      with_reducible exact ⟨e0, e1, e2⟩
    clear hK K
    (try simp only [Act.put, List.setIfInBounds_toArray, List.set_cons_zero, List.set_cons_succ])
    refine wpAnyH_ready (rs := [4]) (by decide +kernel) (by simp) ?_
    refine AllReadyH.cons (o := _) rfl ?_ AllReadyH.nil
    intro K hK
    rw [if_pos (wanted_none (by rfl))]
    (go_simp)
    refine hK.out _ _ ?_ (fun hHeld => ?_)
    · (try dsimp only)
      with_reducible exact ⟨e0, e1, e2⟩
    clear hK K
    (try simp only [Act.put, List.setIfInBounds_toArray, List.set_cons_zero, List.set_cons_succ])
    refine wpAnyH_ready (rs := [7]) (by decide +kernel) (by simp) ?_
    refine AllReadyH.cons (o := _) rfl ?_ AllReadyH.nil
    intro K hK
    (refine step_append_lies _ (by rfl) _ _ _ (by rfl) (rp + 1) 30 i0 _ 3 40 Try.underlying34 hi hz0 hz1 hz2 rfl (by decide) (.slice a L.length c) L.length (L.flatMap Lt.cells) (by rfl) RV.out.2.2 ⟨w1.heap.size, 0, none⟩ 1 1 [.int .i64 f, .int .i64 t, .slice a2 bs.length c2'] (by rfl) rfl (World.news_of_block NB.out) (one_lt _ _ _ _ _) (by decide) (by unfold maxLen; omega) (by omega) (lt_of_block RV.out.1) _ rfl ?_; intro g cap w3 hown3 hgrow3 hat3 hlt3; have HV3 := Lib.hid (grown_keeps RV.out.2.2 hgrow3 RV.out.1); have HG3 : Hid (w3.heap[gb]? = some (.cells #[.bool false, .bool c1, .bool c2, .bool c3] 4 (0, 0))) := (hgrow3.block gb (lt_of_block RV.out.2.1) (fun e => GV.out gb e.symm rfl)).trans RV.out.2.1; have hc3 := (three_cells HV3.out).2.2.1; have hf3 : w3.frozen? ⟨rp, 1, none⟩ = false := free_of_row HV3.out; have k3 : Kept (fun k => k < w.heap.size) _ w3 := Kept.of_grown hgrow3 (fun k hk => OV.out k hk); have m0 := k3.cell e0 (Nat.lt_irrefl _); have m1 := k3.cell e1 (Nat.lt_irrefl _); have m2 := k3.cell e2 (Nat.lt_irrefl _); have HZ := Lib.hid (rsend_close hBp hBg HN.out HL.out BV.out HB.out hown3 hgrow3 hat3 HV3.out HG3.out); clear hown3 hgrow3 hat3 k3)
    refine hK.out _ _ ?_ (fun hHeld => ?_)
    · (try dsimp only)
      with_reducible exact ⟨m0, m1, m2⟩
    clear hK K
    (try simp only [Act.put, List.setIfInBounds_toArray, List.set_cons_zero, List.set_cons_succ])
    refine Plan.start (plan := [8, 9]) (fuel := 1) (by decide +kernel) (by assumption) ?_
    refine Plan.free (i := 8) (ds := some 27) (v := ?_) rfl rfl rfl ?_ (fun _ _ _ h => h) ?_
    rotate_left
    · (intro w hSw; (try dsimp only at hSw); go_simp; first | done | with_reducible rfl)
    (try simp only [Act.put, List.setIfInBounds_toArray, List.set_cons_zero, List.set_cons_succ])
    refine Plan.free (i := 9) (ds := some 28) (v := ?_) rfl rfl rfl ?_ (fun _ _ _ h => h) ?_
    rotate_left
    · (intro w hSw; (try dsimp only at hSw); go_simp; first | done | with_reducible rfl)
    (try simp only [Act.put, List.setIfInBounds_toArray, List.set_cons_zero, List.set_cons_succ])
    refine Plan.stop (fun hHeld => ?_)
    refine wpAnyH_ready (rs := [10]) (by decide +kernel) (by simp) ?_
    refine AllReadyH.cons (o := _) rfl ?_ AllReadyH.nil
    intro K hK
    rw [if_pos (wanted_none (by rfl))]
    (go_simp)
    refine hK.out _ _ ?_ (fun hHeld => ?_)
    · (try dsimp only)
      with_reducible exact ⟨set_other m0 (Ne.symm hnw), set_other m1 (Ne.symm hnw), set_other m2 (Ne.symm hnw)⟩
    clear hK K
    (try simp only [Act.put, List.setIfInBounds_toArray, List.set_cons_zero, List.set_cons_succ])
    refine wpAnyH_done (by decide +kernel) ?_ _
    go_wp2
    go_ret
    exact ⟨rfl, HZ.out⟩
  exact AllReadyH.nil
end Go.Proofs.Ytgkefciojoffgaa
