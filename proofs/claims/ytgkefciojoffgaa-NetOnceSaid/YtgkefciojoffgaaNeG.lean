/- The walk of the closure in the net's Take. -/
import Derived.Test.YtgkefciojoffgaaNeE
import Derived.Deep.RegionHeld3
namespace Go.Proofs.Ytgkefciojoffgaa
open Go.RowKit
set_option linter.unusedVariables false
set_option linter.unusedSimpArgs false
attribute [local go_sem ↓] Go.wp_at_zero Go.wp_at_succ
theorem set_other {W : World} {a b : Addr} {u v : Value} (h : W.cell? b = some v) (hne : b.block ≠ a.block) : (W.setCell a u).cell? b = some v := (Kept.setCell (S := (· = a.block)) W a u rfl).cell h hne
/-- behind a Take: the net, and the letter taken -/
def TakeEnd (B pn po : Nat) (G : Int) (v : Value) (L' : List Lt) (c0 c1 c2 c3 : Bool) (l0 l1 : Int) (l2 : Value) (w w' : World) : Prop :=
  ∃ v', NetV w' pn G v' L' c0 c1 c2 c3 ∧ LtsAt B w' L' ∧ Kept (fun k => Mine pn v k ∨ k = po) w w' ∧ v'.ownBlock = v.ownBlock ∧ w'.heap[po]? = some (.cells #[.int .i64 l0, .int .i64 l1, l2] 30 (0, 0))
theorem take_close {B pn po g cap k : Nat} {G : Int} {cur : Array Value} {L : List Lt} {c0 c1 c2 c3 : Bool} {lf lt' : Int} {lb x0 x1 x2 : Value} {w wd w2 : World} {e : Ending} (hBp : B ≤ pn) (hBo : B ≤ po) (HN : NetV w pn G (.slice (some ⟨g, 0, none⟩) L.length cap) L c0 c1 c2 c3) (HL : LtsAt B w L) (HO : w.heap[po]? = some (.cells #[x0, x1, x2] 30 (0, 0))) (hpo : po ≠ g) (Bd : Below w.heap.size w wd)
    (hrow : w2.ownsRow (pn + 1) 30 3 (.slice (some ⟨g, 0, none⟩) (L.length - 1) cap) (L.eraseIdx k).length ((L.eraseIdx k).flatMap Lt.cells)) (hg : pn + 1 ≤ g) (hD : DelEnd g L.length cap k cur wd e w2) :
    TakeEnd B pn po G (.slice (some ⟨g, 0, none⟩) L.length cap) (L.eraseIdx k) c0 c1 c2 c3 lf lt' lb w ((((w2.setCell ⟨po, 0, none⟩ (.int .i64 lf)).setCell ⟨po, 1, none⟩ (.int .i64 lt')).setCell ⟨po, 2, none⟩ lb).setCell ⟨pn, 1, none⟩ (.slice (some ⟨g, 0, none⟩) (L.length - 1) cap)) := by
  have hpp : po ≠ pn := ne_typed HO HN.1 (by decide)
  have hkd : Kept (fun q => Mine pn (.slice (some ⟨g, 0, none⟩) L.length cap) q ∨ q = po) wd w2 := hD.2.1.mono fun k _ h => .inl (.inr (by rw [h]; rfl))
  have hk : Kept (fun q => Mine pn (.slice (some ⟨g, 0, none⟩) L.length cap) q ∨ q = po) w ((((w2.setCell ⟨po, 0, none⟩ (.int .i64 lf)).setCell ⟨po, 1, none⟩ (.int .i64 lt')).setCell ⟨po, 2, none⟩ lb).setCell ⟨pn, 1, none⟩ (.slice (some ⟨g, 0, none⟩) (L.length - 1) cap)) :=
    ((((((Kept.of_below Bd _).trans hkd).trans (Kept.setCell _ _ _ (.inr rfl))).trans (Kept.setCell _ _ _ (.inr rfl))).trans (Kept.setCell _ _ _ (.inr rfl))).trans (Kept.setCell _ _ _ (.inl (.inl rfl))))
  have k3 : Kept (· = po) w2 (((w2.setCell ⟨po, 0, none⟩ (.int .i64 lf)).setCell ⟨po, 1, none⟩ (.int .i64 lt')).setCell ⟨po, 2, none⟩ lb) := ((Kept.setCell (S := (· = po)) _ _ _ rfl).trans (Kept.setCell (S := (· = po)) _ _ _ rfl)).trans (Kept.setCell (S := (· = po)) _ _ _ rfl)
  have hpn : w2.heap[pn]? = some (.cells #[.int .i64 G, .slice (some ⟨g, 0, none⟩) L.length cap, .bool c0, .bool c1, .bool c2, .bool c3] 56 (0, 0)) := by
    have h1 := stays_block Bd HN.1
    rw [hD.2.1.block pn (lt_of_block h1) (by omega)]
    exact h1
  have hpo2 : w2.heap[po]? = some (.cells #[x0, x1, x2] 30 (0, 0)) := by
    have h1 := stays_block Bd HO
    rw [hD.2.1.block po (lt_of_block h1) hpo]
    exact h1
  have hpn3 : (((w2.setCell ⟨po, 0, none⟩ (.int .i64 lf)).setCell ⟨po, 1, none⟩ (.int .i64 lt')).setCell ⟨po, 2, none⟩ lb).heap[pn]? = _ := (k3.block pn (lt_of_block hpn) (Ne.symm hpp)).trans hpn
  have hpo3 : (((w2.setCell ⟨po, 0, none⟩ (.int .i64 lf)).setCell ⟨po, 1, none⟩ (.int .i64 lt')).setCell ⟨po, 2, none⟩ lb).heap[po]? = some (.cells #[.int .i64 lf, .int .i64 lt', lb] 30 (0, 0)) := set_block (set_block (set_block hpo2))
  refine ⟨.slice (some ⟨g, 0, none⟩) (L.length - 1) cap, ⟨set_block hpn3, ?_⟩, ?_, hk, rfl, ?_⟩
  · have hne : ∀ j, (Value.slice (some ⟨g, 0, none⟩) (L.length - 1) cap).ownBlock ≠ some (⟨po, j, none⟩ : Addr).block := fun j e => hpo (by injection e with e; exact e.symm)
    exact ownsRow_setCell_other (a := ⟨pn, 1, none⟩) (ownsRow_setCell_other (a := ⟨po, 2, none⟩) (ownsRow_setCell_other (a := ⟨po, 1, none⟩) (ownsRow_setCell_other (a := ⟨po, 0, none⟩) hrow (hne 0) _) (hne 1) _) (hne 2) _) (fun e => by have := (hrow.lt _ e).1; exact absurd this (by show ¬ pn + 1 ≤ pn; omega)) _
  · intro l hl
    refine (HL l (List.mem_of_mem_eraseIdx hl)).step (.of_kept hk fun q hq => ?_)
    rcases hq with (rfl | hq) | rfl
    · exact ⟨hBp, _, _, _, HN.1, by decide⟩
    · obtain ⟨h1, cs, h2⟩ := own_typed HN.2 hq
      exact ⟨by omega, _, _, _, h2, by decide⟩
    · exact ⟨hBo, _, _, _, HO, by decide⟩
  · exact ((Kept.setCell (S := (· = pn)) _ ⟨pn, 1, none⟩ _ rfl).block po (lt_of_block hpo3) hpp).trans hpo3
def cutAt (c1 c2 c3 : Bool) (g : Int) : Bool := if g = 1 then c1 else if g = 2 then c2 else c3
set_option maxHeartbeats 4000000 in
set_option maxRecDepth 10000000 in
theorem take1_cut (pn bn bk po : Nat) (G : Int) (v : Value) (L : List Lt) (c0 c1 c2 c3 : Bool) (lf lt' : Int) (lb : Value) (w : World) (hN : NetV w pn G v L c0 c1 c2 c3) (hf : i64 lf) (ht : i64 lt') (hg : 1 ≤ gateI lf lt' ∧ gateI lf lt' ≤ 3) (hc : cutAt c1 c2 c3 (gateI lf lt') = true) (h1 : Box w bn (.pointer (some ⟨pn, 0, none⟩)) 22) :
    Calls Try.prog 30 #[.agg #[.int .i64 lf, .int .i64 lt', lb], .pointer (some ⟨bn, 0, none⟩), .pointer (some ⟨bk, 0, none⟩), .pointer (some ⟨po, 0, none⟩)] w fun e w' => e = .returned (.int .i64 50) ∧ Below w.heap.size w w' := by
  have BW := Lib.hid (below_alloc w (.cells #[.int .i64 lf, .int .i64 lt', lb] 30))
  have a1 := (h1.below (below_alloc w (.cells #[.int .i64 lf, .int .i64 lt', lb] 30))).cell
  have hN1 := hN.below (below_alloc w (.cells #[.int .i64 lf, .int .i64 lt', lb] 30))
  obtain ⟨z0, n0, n1, n2, n3, n4, n5⟩ := net_cells hN1.1
  go_enter Try.func30, Try.ntmps30
  clear hN hN1 h1
  go_wp2_with fail
  generalize w.alloc (.cells #[.int .i64 lf, .int .i64 lt', lb] 30) = W at *
  refine (gate_any pn G lf lt' _ _ n0 hf ht).mono ?_
  rintro e w1 ⟨rfl, hb⟩
  have B1 := Lib.hid (onward hb BW.out)
  have m1 := stays hb a1
  have m3 := stays hb n3
  have m4 := stays hb n4
  have m5 := stays hb n5
  clear hb a1 n0 n1 n2 n3 n4 n5 z0
  generalize gateI lf lt' = gg at *
  have h3 : gg = 1 ∨ gg = 2 ∨ gg = 3 := by omega
  rcases h3 with rfl | rfl | rfl
  · have hc : c1 = true := hc
    subst hc
    go_wp2
    go_ret
    exact ⟨rfl, B1.out⟩
  · have hc : c2 = true := hc
    subst hc
    go_wp2
    go_ret
    exact ⟨rfl, B1.out⟩
  · have hc : c3 = true := hc
    subst hc
    go_wp2
    go_ret
    exact ⟨rfl, B1.out⟩
set_option maxHeartbeats 4000000 in
set_option maxRecDepth 10000000 in
theorem take1_yes (B pn bn bk po k : Nat) (G : Int) (v : Value) (L : List Lt) (c0 c1 c2 c3 : Bool) (lf lt' : Int) (lb x0 x1 x2 : Value) (w : World) (hBp : B ≤ pn) (hBo : B ≤ po) (hN : NetV w pn G v L c0 c1 c2 c3) (hL : LtsAt B w L) (bs : List UInt8) (hB : BytesAt B w lb bs) (hk : k < L.length) (hf : i64 lf) (ht : i64 lt') (hg : 1 ≤ gateI lf lt' ∧ gateI lf lt' ≤ 3) (hc : cutAt c1 c2 c3 (gateI lf lt') = false) (h1 : Box w bn (.pointer (some ⟨pn, 0, none⟩)) 22) (h2 : Box w bk (.int .i64 k) 3) (HO : w.heap[po]? = some (.cells #[x0, x1, x2] 30 (0, 0))) (hpo : v.ownBlock ≠ some po) (hll : L.length ≤ 1000000) :
    Calls Try.prog 30 #[.agg #[.int .i64 lf, .int .i64 lt', lb], .pointer (some ⟨bn, 0, none⟩), .pointer (some ⟨bk, 0, none⟩), .pointer (some ⟨po, 0, none⟩)] w fun e w' => e = .returned (.int .i64 0) ∧ TakeEnd B pn po G v (L.eraseIdx k) c0 c1 c2 c3 lf lt' lb w w' := by
  obtain ⟨g, cap, cur, rfl, hgn, h3, h4, h5, h6, h7⟩ := own_open hN.2 (by omega)
  obtain ⟨a2, cc2, rfl⟩ := hB.form
  have hpg : po ≠ g := fun e => hpo (by rw [e]; rfl)
  have hpp : po ≠ pn := ne_typed HO hN.1 (by decide)
  have BW := Lib.hid (below_alloc w (.cells #[.int .i64 lf, .int .i64 lt', .slice a2 bs.length cc2] 30))
  have G0 := heap_alloc_new w (.cells #[.int .i64 lf, .int .i64 lt', .slice a2 bs.length cc2] 30)
  have hgw := lt_of_block h3
  have hN1 := hN.below (below_alloc w (.cells #[.int .i64 lf, .int .i64 lt', .slice a2 bs.length cc2] 30))
  have a1 := (h1.below (below_alloc w (.cells #[.int .i64 lf, .int .i64 lt', .slice a2 bs.length cc2] 30))).cell
  obtain ⟨z0, n0, -⟩ := net_cells hN1.1
  obtain ⟨zz, g0, g1, g2⟩ := three_cells G0
  have hone := Lib.hid (lts_one hL)
  have HN := Lib.hid hN
  have HL := Lib.hid hL
  have HOO := Lib.hid HO
  have H1 := Lib.hid h1
  have H2 := Lib.hid h2
  have H3 := Lib.hid h3
  have H5 := Lib.hid h6
  have H7 := Lib.hid h7
  have HG0 := Lib.hid G0
  have hw1 : IntKind.i64.wrap ((k : Int) + 1) = (k : Int) + 1 := IntWalk.i64_in _ (by omega)
  clear hN hN1 hB hL h3 h6 h7 h1 h2 G0 HO z0
  go_enter Try.func30, Try.ntmps30
  go_wp2_with fail
  generalize w.alloc (.cells #[.int .i64 lf, .int .i64 lt', .slice a2 bs.length cc2] 30) = W at *
  refine (gate_any pn G lf lt' _ _ n0 hf ht).mono ?_
  rintro e w1 ⟨rfl, hb⟩
  have B1 := Lib.hid (onward hb BW.out)
  have m0 := stays hb g0
  have m1' := stays hb g1
  have m2' := stays hb g2
  have mG := Lib.hid (stays_block hb HG0.out)
  have b1 := Lib.hid (H1.out.below B1.out)
  have b2 := Lib.hid (H2.out.below B1.out)
  have H31 := Lib.hid (stays_block B1.out H3.out)
  have HN1 := Lib.hid (HN.out.below B1.out)
  have HO1 := Lib.hid (stays_block B1.out HOO.out)
  obtain ⟨z0, n0', n1, n2, n3, n4, n5⟩ := net_cells HN1.out.1
  have c1' := b1.out.cell
  have c2' := b2.out.cell
  clear hb a1 n0 g0 g1 g2 zz
  have y1 : bn ≠ g := ne_typed b1.out H31.out (by decide)
  have y2 : bk ≠ g := ne_typed b2.out H31.out (by decide)
  have y3 : pn ≠ g := by omega
  have y4 : w.heap.size ≠ g := by omega
  have y5 : w.heap.size ≠ po := by have := lt_of_block HOO.out; omega
  have H31d : Hid (w1.drew.heap[g]? = some (.cells cur 30 (0, 0))) := H31.out
  have hone2 : Hid (∀ u ∈ cur.toList.take (L.length * 3), u.oneCell' = true) := by rw [Hid, H7.out]; exact hone.out
  have BD := Lib.hid (B1.out.drew)
  generalize gateI lf lt' = gg at *
  have hcell : w1.cell? ⟨pn, 2 + gg.toNat, none⟩ = some (.bool false) := by
    have hgg : gg = 1 ∨ gg = 2 ∨ gg = 3 := by omega
    rcases hgg with rfl | rfl | rfl
    · rw [show c1 = false from hc] at n3; exact n3
    · rw [show c2 = false from hc] at n4; exact n4
    · rw [show c3 = false from hc] at n5; exact n5
  have g0 : 0 ≤ gg := by omega
  have g4 : gg < 4 := by omega
  have y6 : bn ≠ po := ne_typed b1.out HO1.out (by decide)
  have y7 : bk ≠ po := ne_typed b2.out HO1.out (by decide)
  have y8 : pn ≠ po := Ne.symm hpp
  have z6 : bn ≠ pn := ne_typed b1.out HN1.out.1 (by decide)
  have z7 : bk ≠ pn := ne_typed b2.out HN1.out.1 (by decide)
  have z5 : w.heap.size ≠ pn := by have := lt_of_block HN.out.1; omega
  have s3 : ∀ {W : World} {b : Addr} {v u0 u1 u2 : Value}, W.cell? b = some v → b.block ≠ po → (((W.setCell ⟨po, 0, none⟩ u0).setCell ⟨po, 1, none⟩ u1).setCell ⟨po, 2, none⟩ u2).cell? b = some v := fun h hn => set_other (set_other (set_other h hn) hn) hn
  have y9 := Ne.symm y6
  have y10 := Ne.symm y7
  have y11 := Ne.symm y5
  go_wp2_with fail
  have d1 : w1.drew.cell? ⟨bn, 0, none⟩ = some (.pointer (some ⟨pn, 0, none⟩)) := c1'
  have d2 : w1.drew.cell? ⟨bk, 0, none⟩ = some (.int .i64 k) := c2'
  have d3 : w1.drew.cell? ⟨w.heap.size, 0, none⟩ = some (.int .i64 lf) := m0
  have d4 : w1.drew.cell? ⟨w.heap.size, 1, none⟩ = some (.int .i64 lt') := m1'
  have d5 : w1.drew.cell? ⟨w.heap.size, 2, none⟩ = some (.slice a2 bs.length cc2) := m2'
  refine wp_region_held_drew (S := (fun W => W.cell? ⟨bn, 0, none⟩ = some (.pointer (some ⟨pn, 0, none⟩)) ∧ W.cell? ⟨bk, 0, none⟩ = some (.int .i64 k) ∧ W.cell? ⟨w.heap.size, 0, none⟩ = some (.int .i64 lf) ∧ W.cell? ⟨w.heap.size, 1, none⟩ = some (.int .i64 lt') ∧ W.cell? ⟨w.heap.size, 2, none⟩ = some (.slice a2 bs.length cc2))) (by decide +kernel) ?_ (fun hHeld => ?_)
  · (try dsimp only)
    with_reducible exact ⟨d1, d2, d3, d4, d5⟩
  refine wpAnyH_take (i := 0) (oi := _) (v := ?_) rfl (by decide +kernel) (by decide +kernel) (by decide +kernel) (fun _ _ _ h => h) (Or.inl ⟨by rfl, ?_⟩) (by assumption) ?_
  rotate_left
  · (intro w hSw; (try dsimp only at hSw); go_simp; first | done | with_reducible rfl)
  (try simp only [Act.put, List.setIfInBounds_toArray, List.set_cons_zero, List.set_cons_succ])
  refine wpAnyH_take (i := 1) (oi := _) (v := ?_) rfl (by decide +kernel) (by decide +kernel) (by decide +kernel) (fun _ _ _ h => h) (Or.inl ⟨by rfl, ?_⟩) (by assumption) ?_
  rotate_left
  · (intro w hSw; (try dsimp only at hSw); go_simp; first | done | with_reducible rfl)
  (try simp only [Act.put, List.setIfInBounds_toArray, List.set_cons_zero, List.set_cons_succ])
  refine wpAnyH_take (i := 2) (oi := _) (v := ?_) rfl (by decide +kernel) (by decide +kernel) (by decide +kernel) (fun _ _ _ h => h) (Or.inl ⟨by rfl, ?_⟩) (by assumption) ?_
  rotate_left
  · (intro w hSw; (try dsimp only at hSw); go_simp; first | done | with_reducible rfl)
  (try simp only [Act.put, List.setIfInBounds_toArray, List.set_cons_zero, List.set_cons_succ])
  refine wpAnyH_take (i := 3) (oi := _) (v := ?_) rfl (by decide +kernel) (by decide +kernel) (by decide +kernel) (fun _ _ _ h => h) (Or.inl ⟨by rfl, ?_⟩) (by assumption) ?_
  rotate_left
  · (intro w hSw; (try dsimp only at hSw); go_simp; first | done | with_reducible rfl)
  (try simp only [Act.put, List.setIfInBounds_toArray, List.set_cons_zero, List.set_cons_succ])
  refine wpAnyH_take (i := 4) (oi := _) (v := ?_) rfl (by decide +kernel) (by decide +kernel) (by decide +kernel) (fun _ _ _ h => h) (Or.inl ⟨by rfl, ?_⟩) (by assumption) ?_
  rotate_left
  · (intro w hSw; (try dsimp only at hSw); go_simp; first | done | with_reducible rfl)
  (try simp only [Act.put, List.setIfInBounds_toArray, List.set_cons_zero, List.set_cons_succ])
  refine wpAnyH_take (i := 6) (oi := _) (v := ?_) rfl (by decide +kernel) (by decide +kernel) (by decide +kernel) (fun _ _ _ h => h) (Or.inl ⟨by rfl, ?_⟩) (by assumption) ?_
  rotate_left
  · (intro w hSw; (try dsimp only at hSw); go_simp; first | done | with_reducible rfl)
  (try simp only [Act.put, List.setIfInBounds_toArray, List.set_cons_zero, List.set_cons_succ])
  refine wpAnyH_take (i := 7) (oi := _) (v := ?_) rfl (by decide +kernel) (by decide +kernel) (by decide +kernel) (fun _ _ _ h => h) (Or.inl ⟨by rfl, ?_⟩) (by assumption) ?_
  rotate_left
  · (intro w hSw; (try dsimp only at hSw); go_simp; first | done | with_reducible rfl)
  (try simp only [Act.put, List.setIfInBounds_toArray, List.set_cons_zero, List.set_cons_succ])
  refine wpAnyH_take (i := 8) (oi := _) (v := ?_) rfl (by decide +kernel) (by decide +kernel) (by decide +kernel) (fun _ _ _ h => h) (Or.inl ⟨by rfl, ?_⟩) (by assumption) ?_
  rotate_left
  · (intro w hSw; (try dsimp only at hSw); go_simp; first | done | with_reducible rfl)
  (try simp only [Act.put, List.setIfInBounds_toArray, List.set_cons_zero, List.set_cons_succ])
  refine wpAnyH_ready (rs := [5]) (by decide +kernel) (by simp) ?_
  refine AllReadyH.cons (o := _) rfl (fun K hK => ?_) ?_
  rotate_left
  · exact AllReadyH.nil
  go_simp
  refine hK.out _ _ ?_ (fun hHeld => ?_)
  · (try dsimp only)
    with_reducible exact ⟨d1, d2, d3, d4, d5⟩
  clear hK K
  (try simp only [Act.put, List.setIfInBounds_toArray, List.set_cons_zero, List.set_cons_succ])
  refine wpAnyH_ready (rs := [9]) (by decide +kernel) (by simp) ?_
  refine AllReadyH.cons (o := _) rfl (fun K hK => ?_) ?_
  rotate_left
  · exact AllReadyH.nil
  (rw [if_pos (by rfl)]; go_simp; go_at_call 28; ((with_reducible refine (delete_any g L.length cap k cur _ H31d.out H5.out hk h4 h5 hone2.out).mono ?_); rintro e w2 hD; have HD := Lib.hid hD; obtain ⟨rfl, hk2, -, -⟩ := hD; have m1 := (Box.kept (w := w1.drew) b1.out hk2 y1).cell; have m2 := (Box.kept (w := w1.drew) b2.out hk2 y2).cell; have q0 := hk2.cell (w := w1.drew) m0 y4; have q1 := hk2.cell (w := w1.drew) m1' y4; have q2 := hk2.cell (w := w1.drew) m2' y4; have HV : Hid (w2.heap[pn]? = some (.cells #[.int .i64 G, .slice (some ⟨g, 0, none⟩) L.length cap, .bool c0, .bool c1, .bool c2, .bool c3] 56 (0, 0))) := (hk2.block pn z0 y3).trans HN1.out.1; have HP : Hid (w2.heap[po]? = some (.cells #[x0, x1, x2] 30 (0, 0))) := (hk2.block po (lt_of_block HO1.out) hpg).trans HO1.out; have m3 := hk2.cell (w := w1.drew) n1 y3; have m4 : w2.frozen? ⟨pn, 1, none⟩ = false := free_of_row HV.out; have o0 := And.left (And.right (three_cells HP.out)); have o1 := And.left (And.right (And.right (three_cells HP.out))); have o2 := And.right (And.right (And.right (three_cells HP.out))); have f0 : w2.frozen? ⟨po, 0, none⟩ = false := free_of_row HP.out; have f1 : w2.frozen? ⟨po, 1, none⟩ = false := free_of_row HP.out; have f2 : w2.frozen? ⟨po, 2, none⟩ = false := free_of_row HP.out; clear hk2))
  refine hK.out _ _ ?_ (fun hHeld => ?_)
  · (try dsimp only)
    with_reducible exact ⟨m1, m2, q0, q1, q2⟩
  clear hK K
  (try simp only [Act.put, List.setIfInBounds_toArray, List.set_cons_zero, List.set_cons_succ])
  refine wpAnyH_ready (rs := [10]) (by decide +kernel) (by simp) ?_
  refine AllReadyH.cons (o := _) rfl (fun K hK => ?_) ?_
  rotate_left
  · exact AllReadyH.nil
  go_simp
  refine hK.out _ _ ?_ (fun hHeld => ?_)
  · (try dsimp only)
    (go_split_ands; with_reducible exact ⟨s3 (by assumption) y6, s3 (by assumption) y7, s3 (by assumption) y5, s3 (by assumption) y5, s3 (by assumption) y5⟩)
  clear hK K
  (try simp only [Act.put, List.setIfInBounds_toArray, List.set_cons_zero, List.set_cons_succ])
  refine wpAnyH_take (i := 11) (oi := _) (v := ?_) rfl (by decide +kernel) (by decide +kernel) (by decide +kernel) (fun _ _ _ h => h) (Or.inl ⟨by rfl, ?_⟩) (by assumption) ?_
  rotate_left
  · (intro w hSw; (try dsimp only at hSw); go_simp; first | done | with_reducible rfl)
  (try simp only [Act.put, List.setIfInBounds_toArray, List.set_cons_zero, List.set_cons_succ])
  refine wpAnyH_take (i := 12) (oi := _) (v := ?_) rfl (by decide +kernel) (by decide +kernel) (by decide +kernel) (fun _ _ _ h => h) (Or.inl ⟨by rfl, ?_⟩) (by assumption) ?_
  rotate_left
  · (intro w hSw; (try dsimp only at hSw); go_simp; first | done | with_reducible rfl)
  (try simp only [Act.put, List.setIfInBounds_toArray, List.set_cons_zero, List.set_cons_succ])
  refine wpAnyH_ready (rs := [13]) (by decide +kernel) (by simp) ?_
  refine AllReadyH.cons (o := _) rfl (fun K hK => ?_) ?_
  rotate_left
  · exact AllReadyH.nil
  go_simp
  refine hK.out _ _ ?_ (fun hHeld => ?_)
  · (try dsimp only)
    (go_split_ands; with_reducible exact ⟨set_other (by assumption) z6, set_other (by assumption) z7, set_other (by assumption) z5, set_other (by assumption) z5, set_other (by assumption) z5⟩)
  clear hK K
  (try simp only [Act.put, List.setIfInBounds_toArray, List.set_cons_zero, List.set_cons_succ])
  refine wpAnyH_done (by decide +kernel) ?_ _
  all_goals
    have hrow := del_row hgn H7.out H5.out h4 h5 hk HD.out
    have HZ := Lib.hid (take_close (lf := lf) (lt' := lt') (lb := .slice a2 bs.length cc2) hBp hBo HN.out HL.out HOO.out hpg BD.out hrow hgn HD.out)
    clear hrow
    go_wp2
    go_ret
    exact ⟨rfl, HZ.out⟩
end Go.Proofs.Ytgkefciojoffgaa
