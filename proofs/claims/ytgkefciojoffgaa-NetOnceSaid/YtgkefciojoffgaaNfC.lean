/- The walk of the law NetOrder. (Printed by gen_nfc.py.) -/
import Derived.Test.YtgkefciojoffgaaNfB
namespace Go.Proofs.Ytgkefciojoffgaa
open Go.RowKit
set_option linter.unusedVariables false
set_option linter.unusedSimpArgs false
attribute [local go_sem ↓] Go.wp_at_zero Go.wp_at_succ
set_option maxHeartbeats 8000000 in
set_option maxRecDepth 10000000 in
theorem netOrder_any (v hv : Value) (L : List Lt) (hs : List Int) (w : World) (hA : RowsIn w v 3 (L.map Lt.cells)) (hok : ∀ l ∈ L, i64 l.f ∧ i64 l.t ∧ BytesAt w.heap.size w l.bv l.bs ∧ l.bs.length ≤ maxLen) (hH : NumsAt .u8 w hv hs) (hh : ∀ n ∈ hs, 0 ≤ n ∧ n ≤ 255) (hm : hs.length ≤ maxLen) :
    Calls Try.prog 4 #[v, hv] w fun e w' => e = .returned (.bool true) ∧ Below w.heap.size w w' := by
  obtain ⟨a, c, rfl, h1, h2⟩ := rows_form hA
  simp only [List.length_map] at hA h1 ⊢
  have hH0 := hH
  obtain ⟨ah, ch, rfl, -⟩ := hH
  have HA := Lib.hid hA
  have HO := Lib.hid hok
  have HH := Lib.hid hH0
  have HS := Lib.hid hh
  unfold maxLen at h2 hm
  clear hA hok hH0 hh
  by_cases hg1 : 100 < L.length
  · go_enter Try.func4, Try.ntmps4
    go_wp2_with fail
    go_ret
    exact ⟨rfl, Below.refl _ _⟩
  by_cases hg2 : 100 < hs.length
  · go_enter Try.func4, Try.ntmps4
    go_wp2_with fail
    go_ret
    exact ⟨rfl, Below.refl _ _⟩
  have hl1 : (L.length : Int) ≤ 100 := by omega
  have hl2 : (hs.length : Int) ≤ 100 := by omega
  clear hg1 hg2
  obtain ⟨i0, hi, hz0, hz1, hz2⟩ := info_parts infoL
  go_enter Try.func4, Try.ntmps4
  go_wp2_with fail
  refine (new_s w.heap.size 3 w (by decide) (by decide) (Nat.le_refl _) [] (fun k hk => by cases hk)).mono ?_
  rintro e w1 ⟨rfl, hS, hb⟩
  have T1 := Lib.hid (Want.start hS)
  have B1 := Lib.hid hb
  clear hS hb
  go_wp2_with fail
  go_loopw [7, 8] (fun wv i wr => ∃ (k : Nat) (R : List Sy), k ≤ L.length ∧ R.length ≤ k ∧ i = .int .i64 k ∧ Hid (Want w.heap.size w.heap.size wr wv R R) ∧ Hid (Below w.heap.size w wr)) (fun _ i _ => L.length - (intOf i).toNat)
  case atStart => exact ⟨0, [], by omega, Nat.zero_le _, rfl, T1, B1⟩
  case round =>
    obtain ⟨k, R, hk, hRk, rfl, TR, BR⟩ := hrel
    by_cases hlt : k < L.length
    · obtain ⟨q, o, rfl, e0, e1, e2⟩ := lt_cells HA.out k hlt
      obtain ⟨hf, ht, hbA, hbl⟩ := HO.out L[k] (List.getElem_mem hlt)
      obtain ⟨ba, bc, hform⟩ := hbA.form
      rw [hform] at e2
      have BA : Hid (BytesAt w.heap.size wr (.slice ba L[k].bs.length bc) L[k].bs) := by
        have h := hbA.step (.of_below BR.out)
        rw [hform] at h
        exact h
      unfold maxLen at hbl
      have hz : (k : Int) < L.length := by omega
      clear hbA hform
      generalize L[k].f = af at *
      generalize L[k].t = at' at *
      generalize L[k].bs = abs at *
      obtain ⟨M, r1, r2, r3, r4⟩ := TR.out
      have g0 := stays BR.out e0
      have g1 := stays BR.out e1
      have g2 := stays BR.out e2
      go_wp2_with fail
      refine (send_s w.heap.size w.heap.size _ 3 R false false false af at' _ abs wr r4 BA.out hf ht hbl).mono ?_
      rintro e w2 ⟨rfl, hS, hO⟩
      have hT := TR.out.act hS hO
      have B2 := Lib.hid (BR.out.trans hO.1)
      have BA2 := Lib.hid (BA.out.step hO.2.1)
      have f0 := stays B2.out e0
      have f1 := stays B2.out e1
      have f2 := stays B2.out e2
      clear e0 e1 e2 g0 g1 g2 hS hO r1 r2 r3 r4
      by_cases hj : sendJ 3 R (af, at', abs) = 0
      · have hR : sendR 3 R (af, at', abs) = R ++ [(af, at', abs)] := by unfold sendR; rw [if_pos hj]
        rw [hR] at hT
        rw [hj]
        obtain ⟨M2, m1, m2, rfl, m4⟩ := hT
        have hlen : (M2.map Lt.says).length = M2.length := List.length_map _
        rw [hlen] at hRk
        have M1 := Lib.hid m1
        have M2' := Lib.hid m2
        have M4 := Lib.hid m4
        obtain ⟨a7, c7, hv7⟩ := net_form m1
        subst hv7
        clear m1 m2 m4 hj hR hlen TR
        go_wp2_with (at_builtin; refine wpList_append_lies _ rfl _ _ 34 rfl w.heap.size 30 i0 _ 3 40 Try.underlying34 hi hz0 hz1 hz2 rfl (by decide) _ _ _ rfl (M1.out.alloc _) ⟨w2.heap.size, 0, none⟩ 1 1 [.int .i64 af, .int .i64 at', .slice ba abs.length bc] rfl rfl (new_cells _ _ _) (one_lt _ _ _ _ _) (by decide) (by unfold maxLen; omega) (by omega) (by have := B2.out.size; simp; omega) _ rfl ?_)
        intro g7 cap7 w3 hown3 hgrow3 hat3 hlt3
        have ba7 := below_alloc w2 (.cells #[.int .i64 af, .int .i64 at', .slice ba abs.length bc] 30)
        have T3 := Lib.hid (Want.push (M1.out.alloc _) (M2'.out.step (.of_below ba7)) (M4.out.below ba7) (BA2.out.below ba7) hown3 hgrow3 (by rcases hat3 with h | h; exact .inl h; exact .inr (by rw [h]; simp)) hlt3)
        have B3 := Lib.hid (owned_below (M1.out.alloc (.cells #[.int .i64 af, .int .i64 at', .slice ba abs.length bc] 30)) (onward ba7 B2.out) hgrow3)
        clear hown3 hgrow3 hat3 hlt3 ba7
        go_wp2
        go_roundw
        case rel => exact ⟨k + 1, _, by omega, by simp; omega, by go_num, T3, B3⟩
        case measure => simp [intOf]; omega
      · have hR : sendR 3 R (af, at', abs) = R := by unfold sendR; rw [if_neg hj]
        rw [hR] at hT
        have T2 := Lib.hid hT
        have hj' : (sendJ 3 R (af, at', abs) == 0) = false := by simp [hj]
        clear hj hR hT
        go_wp2
        go_roundw
        case rel => exact ⟨k + 1, R, by omega, by omega, by go_num, T2, B2⟩
        case measure => simp [intOf]; omega
    · obtain rfl : k = L.length := by omega
      clear hlt
      have hR1 : R.length ≤ 100 := by omega
      go_wp2_with fail
      go_loopw [7, 9] (fun wv i wr => ∃ (k : Nat) (R : List Sy), k ≤ hs.length ∧ R.length ≤ 100 ∧ i = .int .i64 k ∧ Hid (Want w.heap.size w.heap.size wr wv R R) ∧ Hid (Below w.heap.size w wr)) (fun _ i _ => hs.length - (intOf i).toNat)
      case atStart => exact ⟨0, R, by omega, hR1, rfl, TR, BR⟩
      case round =>
        clear TR BR hR1
        obtain ⟨k, R, hk, hR1, rfl, TR, BR⟩ := hrel
        obtain ⟨M, r1, r2, rfl, r4⟩ := TR.out
        have hlen : (M.map Lt.says).length = M.length := List.length_map _
        rw [hlen] at hR1
        obtain ⟨a7, c7, hv7⟩ := net_form r1
        subst hv7
        by_cases hlt : k < hs.length ∧ 1 ≤ M.length
        · obtain ⟨hlt, hn1⟩ := hlt
          obtain ⟨ah', ch', eh, hcell⟩ := HH.out
          injection eh with eh1 eh2 eh3
          subst eh1 eh3
          obtain ⟨qh, oh, rfl, hc0⟩ := hcell k hlt
          have hc1 := stays BR.out hc0
          obtain ⟨hv0, hv1⟩ := HS.out (hs.getD k 0) (by rw [getD_at _ _ _ hlt]; exact List.getElem_mem _)
          generalize hs.getD k 0 = hx at *
          have hz : (k : Int) < hs.length := by omega
          have hzn : (0 : Int) < M.length := by omega
          obtain ⟨kk, hkk⟩ : ∃ kk : Nat, hx % (M.length : Int) = kk := ⟨(hx % (M.length : Int)).toNat, by have := Int.emod_nonneg hx (show (M.length : Int) ≠ 0 by omega); omega⟩
          have hkl : kk < M.length := by have := Int.emod_lt_of_pos hx (show (0 : Int) < M.length by omega); omega
          have R4 := Lib.hid r4
          clear hcell hlen r1 r2 r4 hc0
          go_wp2_with fail
          refine (hold_s w.heap.size w.heap.size _ 3 _ false false false kk wr R4.out).mono ?_
          rintro e w2 ⟨rfl, hS, hO⟩
          rw [drop_zero _ kk (by simp; exact hkl)]
          have T2 := Lib.hid (TR.out.act hS hO)
          have B2 := Lib.hid (BR.out.trans hO.1)
          clear hS hO R4 hc1
          obtain ⟨M2, m1, m2, m3, m4⟩ := T2.out
          have hl2 : M2.length = M.length := by have := congrArg List.length m3; simpa using this
          obtain ⟨g, cap, cur, hv, hg, h3, h4, h5, h6, h7⟩ := own_open m1 (by omega)
          injection hv with hv1 hv2' hv3
          subst hv1 hv3
          have hkl2 : kk < M2.length := by omega
          obtain ⟨r0, r1, r2⟩ := row_letter (n := 0) (cap := 0) h3 h7 kk hkl2
          obtain ⟨xa, xc, hxf⟩ := (m2 M2[kk] (List.getElem_mem hkl2)).form
          have HX := Lib.hid (m2 M2[kk] (List.getElem_mem hkl2))
          rw [hxf] at r2
          have HXF := Lib.hid hxf
          have HR7 : Hid (cur.toList.take (M.length * 3) = M2.flatMap Lt.cells) := by rw [Hid, ← hl2]; exact h7
          have HL2 := Lib.hid hl2
          have HM3 := Lib.hid m3
          have H3 := Lib.hid h3
          have HONE := Lib.hid (lts_one m2)
          have HM2 := Lib.hid m2
          have hgl := lt_of_block h3
          have hcap : (M.length : Int) ≤ c7 := by omega
          have hcap' : M.length ≤ c7 := by omega
          have hk7 : kk ≤ c7 := by omega
          have hk8 : kk + 1 ≤ M.length := by omega
          have hk9 : (kk : Int) + 1 ≤ M.length := by omega
          have hk10 : (0 : Int) ≤ (kk : Int) + 1 := by omega
          have hk11 : (kk : Int) ≤ (kk : Int) + 1 := by omega
          have hc63 : c7 ≤ 9223372036854775807 := by unfold maxLen at h5; omega
          have hw1 : IntKind.i64.wrap ((kk : Int) + 1) = (kk : Int) + 1 := IntWalk.i64_in _ (by omega)
          clear m1 m2 m3 m4 h3 h4 h5 h6 h7 hxf hl2 hv2'
          have ob0 := alloc_block w2 #[.int .i64 M2[kk].f, .int .i64 M2[kk].t, .slice xa M2[kk].bs.length xc] 30 (0, 0)
          have bu0 := below_alloc w2 (.cells #[.int .i64 M2[kk].f, .int .i64 M2[kk].t, .slice xa M2[kk].bs.length xc] 30)
          have hus : (w2.alloc (.cells #[.int .i64 M2[kk].f, .int .i64 M2[kk].t, .slice xa M2[kk].bs.length xc] 30)).heap.size = w2.heap.size + 1 := by simp
          by_cases hcc : c7 = kk + 1
          · subst hcc
            go_wp2_with fail
            generalize w2.alloc (.cells #[.int .i64 M2[kk].f, .int .i64 M2[kk].t, .slice xa M2[kk].bs.length xc] 30) = U at *
            obtain ⟨-, x0, x1, x2⟩ := three_cells ob0
            have HS19 : Hid (∀ W, Below (w2.heap.size + 1) U.drew W → W.cell? ⟨w2.heap.size, 0, none⟩ = some (.int .i64 M2[kk].f) ∧ W.cell? ⟨w2.heap.size, 1, none⟩ = some (.int .i64 M2[kk].t) ∧ W.cell? ⟨w2.heap.size, 2, none⟩ = some (.slice xa M2[kk].bs.length xc)) := fun W hb => ⟨(hb.cell (p := ⟨w2.heap.size, 0, none⟩) (Nat.lt_succ_self _)).trans x0, (hb.cell (p := ⟨w2.heap.size, 1, none⟩) (Nat.lt_succ_self _)).trans x1, (hb.cell (p := ⟨w2.heap.size, 2, none⟩) (Nat.lt_succ_self _)).trans x2⟩
            have HG : Hid (∀ W, Below (w2.heap.size + 1) U.drew W → W.heap[g]? = some (.cells cur 30 (0, 0))) := fun W hb => (hb.block g (by omega)).trans (stays_block bu0.drew H3.out)
            have FB : Hid (Below (w2.heap.size + 1) U.drew U.drew) := Below.refl _ _
            have BU : Hid (Below w2.heap.size w2 U.drew) := bu0.drew
            have HUS : Hid (U.heap.size = w2.heap.size + 1) := hus
            clear x0 x1 x2 ob0 bu0 hus r0 r1 r2
            refine wp_region_held_drew (S := (fun W => W.cell? ⟨w2.heap.size, 0, none⟩ = some (.int .i64 M2[kk].f) ∧ W.cell? ⟨w2.heap.size, 1, none⟩ = some (.int .i64 M2[kk].t) ∧ W.cell? ⟨w2.heap.size, 2, none⟩ = some (.slice xa M2[kk].bs.length xc))) (by kernel_rfl) ?_ (fun hHeld => ?_)
            · (try dsimp only)
              exact HS19.out _ FB.out
            refine Plan.start (plan := [1, 2, 3, 5, 6, 7, 8, 10]) (fuel := 6) (by decide +kernel) (by assumption) ?_
            refine Plan.free (i := 1) (ds := some 81) (v := ?_) rfl rfl rfl ?_ (fun _ _ _ h => h) ?_
            rotate_left
            · (intro w hSw; (try dsimp only at hSw); go_simp; first | done | with_reducible rfl)
            (try simp only [Act.put, List.setIfInBounds_toArray, List.set_cons_zero, List.set_cons_succ])
            refine Plan.free (i := 2) (ds := some 82) (v := ?_) rfl rfl rfl ?_ (fun _ _ _ h => h) ?_
            rotate_left
            · (intro w hSw; (try dsimp only at hSw); go_simp; first | done | with_reducible rfl)
            (try simp only [Act.put, List.setIfInBounds_toArray, List.set_cons_zero, List.set_cons_succ])
            refine Plan.free (i := 3) (ds := some 83) (v := ?_) rfl rfl rfl ?_ (fun _ _ _ h => h) ?_
            rotate_left
            · (intro w hSw; (try dsimp only at hSw); go_simp; first | done | with_reducible rfl)
            (try simp only [Act.put, List.setIfInBounds_toArray, List.set_cons_zero, List.set_cons_succ])
            refine Plan.free (i := 5) (ds := some 85) (v := ?_) rfl rfl rfl ?_ (fun _ _ _ h => h) ?_
            rotate_left
            · (intro w hSw; (try dsimp only at hSw); go_simp; first | done | with_reducible rfl)
            (try simp only [Act.put, List.setIfInBounds_toArray, List.set_cons_zero, List.set_cons_succ])
            refine Plan.free (i := 6) (ds := some 86) (v := ?_) rfl rfl rfl ?_ (fun _ _ _ h => h) ?_
            rotate_left
            · (intro w hSw; (try dsimp only at hSw); go_simp; first | done | with_reducible rfl)
            (try simp only [Act.put, List.setIfInBounds_toArray, List.set_cons_zero, List.set_cons_succ])
            refine Plan.free (i := 7) (ds := some 87) (v := ?_) rfl rfl rfl ?_ (fun _ _ _ h => h) ?_
            rotate_left
            · (intro w hSw; (try dsimp only at hSw); go_simp; first | done | with_reducible rfl)
            (try simp only [Act.put, List.setIfInBounds_toArray, List.set_cons_zero, List.set_cons_succ])
            refine Plan.free (i := 8) (ds := some 88) (v := ?_) rfl rfl rfl ?_ (fun _ _ _ h => h) ?_
            rotate_left
            · (intro w hSw; (try dsimp only at hSw); go_simp; first | done | with_reducible rfl)
            (try simp only [Act.put, List.setIfInBounds_toArray, List.set_cons_zero, List.set_cons_succ])
            refine Plan.free (i := 10) (ds := some 90) (v := ?_) rfl rfl rfl ?_ (fun _ _ _ h => h) ?_
            rotate_left
            · (intro w hSw; (try dsimp only at hSw); go_simp; first | done | with_reducible rfl)
            (try simp only [Act.put, List.setIfInBounds_toArray, List.set_cons_zero, List.set_cons_succ])
            refine Plan.stop (fun hHeld => ?_)
            refine wpAnyH_ready (rs := [0, 11]) (by decide +kernel) (by simp) ?_
            refine AllReadyH.cons (o := _) rfl ?_ ?_
            · intro K hK
              rw [if_pos (wanted_none (by rfl))]
              (go_simp; obtain ⟨W1, hW1⟩ : ∃ W, W = (U.alloc (.cells #[] 30)).drew := ⟨_, rfl⟩; rw [← hW1]; have ZS1 : Hid (w2.heap.size + 1 ≤ U.heap.size) := Nat.le_of_eq HUS.out.symm; have F1 : Hid (Below (w2.heap.size + 1) U.drew W1) := (by rw [hW1]; exact (below_src ((Below.refl (w2.heap.size + 1) U).alloc ZS1.out _).drew)); have AL1 : Hid (Below U.heap.size U W1) := (by rw [hW1]; exact below_alloc _ _ |>.drew); have O1 : Hid (W1.ownsRow (w2.heap.size + 1) 30 3 (.slice (some ⟨U.heap.size, 0, none⟩) 0 0) 0 []) := (by rw [hW1]; exact ownsRow_base ZS1.out (own_emptyL _)); clear hW1)
              refine hK.out _ _ ?_ (fun hHeld => ?_)
              · (try dsimp only)
                exact HS19.out _ F1.out
              clear hK K
              (try simp only [Act.put, List.setIfInBounds_toArray, List.set_cons_zero, List.set_cons_succ])
              refine wpAnyH_ready (rs := [4, 11]) (by decide +kernel) (by simp) ?_
              refine AllReadyH.cons (o := _) rfl ?_ ?_
              · intro K hK
                rw [if_pos (wanted_none (by rfl))]
                (refine wp_append_at _ _ _ 34 (by rfl) (w2.heap.size + 1) 30 i0 _ 3 40 Try.underlying34 hi hz0 hz1 hz2 rfl (by decide) (.slice (some ⟨U.heap.size, 0, none⟩) 0 0) 0 [] (by rfl) O1.out ⟨g, 0, none⟩ kk (kk + 1) (((M2.flatMap Lt.cells).drop 0).take (kk * 3)) (by rfl) (part_len _ _ _ (by rw [cells_len, HL2.out]; omega)) (row_src (HG.out _ F1.out) HR7.out 0 (kk * 3) (by omega)) (part_one HONE.out _ _) (by unfold maxLen; omega) (by omega) (Nat.le_trans (Nat.le_of_eq HUS.out.symm) F1.out.size) ?_; intro v2 W2 hown2 hgrow2 hat2; have O2 : Hid (W2.ownsRow (w2.heap.size + 1) 30 3 v2 kk ((M2.flatMap Lt.cells).take (kk * 3))) := (by have h := hown2; simp only [Nat.zero_add, List.nil_append, List.drop_zero] at h; exact h); obtain ⟨b2, cc2, hv2⟩ : ∃ a c, v2 = .slice a kk c := net_form O2.out; subst hv2; have F2 : Hid (Below (w2.heap.size + 1) U.drew W2) := F1.out.grown hgrow2 (Nat.le_trans (Nat.le_of_eq HUS.out.symm) F1.out.size) (fun k hk => (O1.out.lt k hk).1); clear hown2 hgrow2 hat2)
                refine hK.out _ _ ?_ (fun hHeld => ?_)
                · (try dsimp only)
                  exact HS19.out _ F2.out
                clear hK K
                (try simp only [Act.put, List.setIfInBounds_toArray, List.set_cons_zero, List.set_cons_succ])
                refine wpAnyH_ready (rs := [9, 11]) (by decide +kernel) (by simp) ?_
                refine AllReadyH.cons (o := _) rfl ?_ ?_
                · intro K hK
                  rw [if_pos (wanted_none (by rfl))]
                  (refine wp_append_at _ _ _ 34 (by rfl) (w2.heap.size + 1) 30 i0 _ 3 40 Try.underlying34 hi hz0 hz1 hz2 rfl (by decide) (.slice b2 kk cc2) kk ((M2.flatMap Lt.cells).take (kk * 3)) (by rfl) O2.out ⟨g, 0, none⟩ 0 0 [] (by rfl) rfl (fun j u hj => by simp at hj) (fun u hu => by cases hu) (by unfold maxLen; omega) (by omega) (Nat.le_trans (Nat.le_of_eq HUS.out.symm) F2.out.size) ?_; intro v3 W3 hown3 hgrow3 hat3; have O3 : Hid (W3.ownsRow (w2.heap.size + 1) 30 3 v3 (M.length - 1) ((M2.eraseIdx kk).flatMap Lt.cells)) := (by have h := hown3; rw [moved_empty (by rw [HL2.out]; exact hkl) (by rw [HL2.out]; omega)] at h; have e : M.length - 1 = kk + 0 := (by omega); rw [e]; exact h); obtain ⟨b3, cc3, hv3⟩ : ∃ a c, v3 = .slice a (M.length - 1) c := net_form O3.out; subst hv3; have F3 : Hid (Below (w2.heap.size + 1) U.drew W3) := F2.out.grown hgrow3 (Nat.le_trans (Nat.le_of_eq HUS.out.symm) F2.out.size) (fun k hk => (O2.out.lt k hk).1); clear hown3 hgrow3 hat3)
                  refine hK.out _ _ ?_ (fun hHeld => ?_)
                  · (try dsimp only)
                    exact HS19.out _ F3.out
                  clear hK K
                  (try simp only [Act.put, List.setIfInBounds_toArray, List.set_cons_zero, List.set_cons_succ])
                  refine wpAnyH_ready (rs := [11]) (by decide +kernel) (by simp) ?_
                  refine AllReadyH.cons (o := _) rfl ?_ AllReadyH.nil
                  intro K hK
                  rw [if_pos (wanted_none (by rfl))]
                  (go_simp; obtain ⟨W4, hW4⟩ : ∃ W, W = (W3.alloc (.cells #[.int .i64 M2[kk].f, .int .i64 M2[kk].t, .slice xa M2[kk].bs.length xc] 30)) := ⟨_, rfl⟩; rw [← hW4]; have ZS4 : Hid (w2.heap.size + 1 ≤ W3.heap.size) := Nat.le_trans (Nat.le_of_eq HUS.out.symm) F3.out.size; have F4 : Hid (Below (w2.heap.size + 1) U.drew W4) := (by rw [hW4]; exact (F3.out.alloc ZS4.out _)); have AL4 : Hid (Below W3.heap.size W3 W4) := (by rw [hW4]; exact below_alloc _ _); have NB4 : Hid (W4.heap[W3.heap.size]? = some (.cells #[.int .i64 M2[kk].f, .int .i64 M2[kk].t, .slice xa M2[kk].bs.length xc] 30)) := (by rw [hW4]; exact alloc_block _ _ _ _); have O4 : Hid (W4.ownsRow (w2.heap.size + 1) 30 3 (.slice b3 (M.length - 1) cc3) (M.length - 1) ((M2.eraseIdx kk).flatMap Lt.cells)) := ownsRow_below O3.out AL4.out; have NE4 : Hid (∀ k, (Value.slice b3 (M.length - 1) cc3).ownBlock = some k → k ≠ W3.heap.size) := fun k hk e => (by have := (O3.out.lt k hk).2; omega); clear hW4)
                  refine hK.out _ _ ?_ (fun hHeld => ?_)
                  · (try dsimp only)
                    exact HS19.out _ F4.out
                  clear hK K
                  (try simp only [Act.put, List.setIfInBounds_toArray, List.set_cons_zero, List.set_cons_succ])
                  refine wpAnyH_ready (rs := [12]) (by decide +kernel) (by simp) ?_
                  refine AllReadyH.cons (o := _) rfl ?_ AllReadyH.nil
                  intro K hK
                  rw [if_pos (wanted_none (by rfl))]
                  (refine wp_append_at _ _ _ 34 (by rfl) (w2.heap.size + 1) 30 i0 _ 3 40 Try.underlying34 hi hz0 hz1 hz2 rfl (by decide) (.slice b3 (M.length - 1) cc3) (M.length - 1) ((M2.eraseIdx kk).flatMap Lt.cells) (by rfl) O4.out ⟨W3.heap.size, 0, none⟩ 1 1 [.int .i64 M2[kk].f, .int .i64 M2[kk].t, .slice xa M2[kk].bs.length xc] (by rfl) rfl (World.news_of_block NB4.out) (one_lt _ _ _ _ _) (by unfold maxLen; omega) (by omega) (Nat.le_trans (Nat.le_of_eq HUS.out.symm) F4.out.size) ?_; intro v5 W5 hown5 hgrow5 hat5; have O5 : Hid (W5.ownsRow (w2.heap.size + 1) 30 3 v5 (M.length - 1 + 1) ((M2.eraseIdx kk).flatMap Lt.cells ++ [.int .i64 M2[kk].f, .int .i64 M2[kk].t, .slice xa M2[kk].bs.length xc])) := hown5; obtain ⟨b5, cc5, hv5⟩ : ∃ a c, v5 = .slice a (M.length - 1 + 1) c := net_form O5.out; subst hv5; have F5 : Hid (Below (w2.heap.size + 1) U.drew W5) := F4.out.grown hgrow5 (Nat.le_trans (Nat.le_of_eq HUS.out.symm) F4.out.size) (fun k hk => (O4.out.lt k hk).1); have NB5 : Hid (W5.heap[W3.heap.size]? = some (.cells #[.int .i64 M2[kk].f, .int .i64 M2[kk].t, .slice xa M2[kk].bs.length xc] 30)) := (hgrow5.block _ (lt_of_block NB4.out) (fun e => NE4.out _ e.symm rfl)).trans NB4.out; have NE5 : Hid (∀ k, (Value.slice b5 (M.length - 1 + 1) cc5).ownBlock = some k → k ≠ W3.heap.size) := fun k hk e => (by rcases hat5 with h | h; exact NE4.out k (h ▸ hk) e; rw [h] at hk; injection hk with hk; have := lt_of_block NB4.out; omega); clear hown5 hgrow5 hat5)
                  refine hK.out _ _ ?_ (fun hHeld => ?_)
                  · (try dsimp only)
                    exact HS19.out _ F5.out
                  clear hK K
                  (try simp only [Act.put, List.setIfInBounds_toArray, List.set_cons_zero, List.set_cons_succ])
                  refine Plan.start (plan := [13]) (fuel := 0) (by decide +kernel) (by assumption) ?_
                  refine Plan.free (i := 13) (ds := some 7) (v := ?_) rfl rfl rfl ?_ (fun _ _ _ h => h) ?_
                  rotate_left
                  · (intro w hSw; (try dsimp only at hSw); go_simp; first | done | with_reducible rfl)
                  (try simp only [Act.put, List.setIfInBounds_toArray, List.set_cons_zero, List.set_cons_succ])
                  refine Plan.stop (fun hHeld => ?_)
                  refine wpAnyH_done (by decide +kernel) ?_ _
                  have BZ := Lib.hid (BU.out.trans (F5.out.mono (Nat.le_succ _)))
                  have hmv := Want.moved T2.out BZ.out (by have := B2.out.size; omega) hkl2 HL2.out HM3.out HM2.out HXF.out O5.out
                  rw [Nat.sub_add_cancel hn1] at hmv
                  have TZ := Lib.hid hmv
                  have BY := Lib.hid (B2.out.trans (BZ.out.mono B2.out.size))
                  clear hmv F1 F2 F3 F4 F5
                  go_wp2_with fail
                  go_roundw
                  case rel => exact ⟨k + 1, _, by omega, by rw [hold_len, List.length_map]; omega, by go_num, TZ, BY⟩
                  case measure => simp [intOf]; omega
                refine AllReadyH.cons (o := _) rfl ?_ ?_
                · intro K hK
                  rw [if_pos (wanted_none (by rfl))]
                  (go_simp; obtain ⟨W3, hW3⟩ : ∃ W, W = (W2.alloc (.cells #[.int .i64 M2[kk].f, .int .i64 M2[kk].t, .slice xa M2[kk].bs.length xc] 30)) := ⟨_, rfl⟩; rw [← hW3]; have ZS3 : Hid (w2.heap.size + 1 ≤ W2.heap.size) := Nat.le_trans (Nat.le_of_eq HUS.out.symm) F2.out.size; have F3 : Hid (Below (w2.heap.size + 1) U.drew W3) := (by rw [hW3]; exact (F2.out.alloc ZS3.out _)); have AL3 : Hid (Below W2.heap.size W2 W3) := (by rw [hW3]; exact below_alloc _ _); have NB3 : Hid (W3.heap[W2.heap.size]? = some (.cells #[.int .i64 M2[kk].f, .int .i64 M2[kk].t, .slice xa M2[kk].bs.length xc] 30)) := (by rw [hW3]; exact alloc_block _ _ _ _); have O3 : Hid (W3.ownsRow (w2.heap.size + 1) 30 3 (.slice b2 kk cc2) kk ((M2.flatMap Lt.cells).take (kk * 3))) := ownsRow_below O2.out AL3.out; have NE3 : Hid (∀ k, (Value.slice b2 kk cc2).ownBlock = some k → k ≠ W2.heap.size) := fun k hk e => (by have := (O2.out.lt k hk).2; omega); clear hW3)
                  refine hK.out _ _ ?_ (fun hHeld => ?_)
                  · (try dsimp only)
                    exact HS19.out _ F3.out
                  clear hK K
                  (try simp only [Act.put, List.setIfInBounds_toArray, List.set_cons_zero, List.set_cons_succ])
                  refine wpAnyH_ready (rs := [9]) (by decide +kernel) (by simp) ?_
                  refine AllReadyH.cons (o := _) rfl ?_ AllReadyH.nil
                  intro K hK
                  rw [if_pos (wanted_none (by rfl))]
                  (refine wp_append_at _ _ _ 34 (by rfl) (w2.heap.size + 1) 30 i0 _ 3 40 Try.underlying34 hi hz0 hz1 hz2 rfl (by decide) (.slice b2 kk cc2) kk ((M2.flatMap Lt.cells).take (kk * 3)) (by rfl) O3.out ⟨g, 0, none⟩ 0 0 [] (by rfl) rfl (fun j u hj => by simp at hj) (fun u hu => by cases hu) (by unfold maxLen; omega) (by omega) (Nat.le_trans (Nat.le_of_eq HUS.out.symm) F3.out.size) ?_; intro v4 W4 hown4 hgrow4 hat4; have O4 : Hid (W4.ownsRow (w2.heap.size + 1) 30 3 v4 (M.length - 1) ((M2.eraseIdx kk).flatMap Lt.cells)) := (by have h := hown4; rw [moved_empty (by rw [HL2.out]; exact hkl) (by rw [HL2.out]; omega)] at h; have e : M.length - 1 = kk + 0 := (by omega); rw [e]; exact h); obtain ⟨b4, cc4, hv4⟩ : ∃ a c, v4 = .slice a (M.length - 1) c := net_form O4.out; subst hv4; have F4 : Hid (Below (w2.heap.size + 1) U.drew W4) := F3.out.grown hgrow4 (Nat.le_trans (Nat.le_of_eq HUS.out.symm) F3.out.size) (fun k hk => (O3.out.lt k hk).1); have NB4 : Hid (W4.heap[W2.heap.size]? = some (.cells #[.int .i64 M2[kk].f, .int .i64 M2[kk].t, .slice xa M2[kk].bs.length xc] 30)) := (hgrow4.block _ (lt_of_block NB3.out) (fun e => NE3.out _ e.symm rfl)).trans NB3.out; have NE4 : Hid (∀ k, (Value.slice b4 (M.length - 1) cc4).ownBlock = some k → k ≠ W2.heap.size) := fun k hk e => (by rcases hat4 with h | h; exact NE3.out k (h ▸ hk) e; rw [h] at hk; injection hk with hk; have := lt_of_block NB3.out; omega); clear hown4 hgrow4 hat4)
                  refine hK.out _ _ ?_ (fun hHeld => ?_)
                  · (try dsimp only)
                    exact HS19.out _ F4.out
                  clear hK K
                  (try simp only [Act.put, List.setIfInBounds_toArray, List.set_cons_zero, List.set_cons_succ])
                  refine wpAnyH_ready (rs := [12]) (by decide +kernel) (by simp) ?_
                  refine AllReadyH.cons (o := _) rfl ?_ AllReadyH.nil
                  intro K hK
                  rw [if_pos (wanted_none (by rfl))]
                  (refine wp_append_at _ _ _ 34 (by rfl) (w2.heap.size + 1) 30 i0 _ 3 40 Try.underlying34 hi hz0 hz1 hz2 rfl (by decide) (.slice b4 (M.length - 1) cc4) (M.length - 1) ((M2.eraseIdx kk).flatMap Lt.cells) (by rfl) O4.out ⟨W2.heap.size, 0, none⟩ 1 1 [.int .i64 M2[kk].f, .int .i64 M2[kk].t, .slice xa M2[kk].bs.length xc] (by rfl) rfl (World.news_of_block NB4.out) (one_lt _ _ _ _ _) (by unfold maxLen; omega) (by omega) (Nat.le_trans (Nat.le_of_eq HUS.out.symm) F4.out.size) ?_; intro v5 W5 hown5 hgrow5 hat5; have O5 : Hid (W5.ownsRow (w2.heap.size + 1) 30 3 v5 (M.length - 1 + 1) ((M2.eraseIdx kk).flatMap Lt.cells ++ [.int .i64 M2[kk].f, .int .i64 M2[kk].t, .slice xa M2[kk].bs.length xc])) := hown5; obtain ⟨b5, cc5, hv5⟩ : ∃ a c, v5 = .slice a (M.length - 1 + 1) c := net_form O5.out; subst hv5; have F5 : Hid (Below (w2.heap.size + 1) U.drew W5) := F4.out.grown hgrow5 (Nat.le_trans (Nat.le_of_eq HUS.out.symm) F4.out.size) (fun k hk => (O4.out.lt k hk).1); have NB5 : Hid (W5.heap[W2.heap.size]? = some (.cells #[.int .i64 M2[kk].f, .int .i64 M2[kk].t, .slice xa M2[kk].bs.length xc] 30)) := (hgrow5.block _ (lt_of_block NB4.out) (fun e => NE4.out _ e.symm rfl)).trans NB4.out; have NE5 : Hid (∀ k, (Value.slice b5 (M.length - 1 + 1) cc5).ownBlock = some k → k ≠ W2.heap.size) := fun k hk e => (by rcases hat5 with h | h; exact NE4.out k (h ▸ hk) e; rw [h] at hk; injection hk with hk; have := lt_of_block NB4.out; omega); clear hown5 hgrow5 hat5)
                  refine hK.out _ _ ?_ (fun hHeld => ?_)
                  · (try dsimp only)
                    exact HS19.out _ F5.out
                  clear hK K
                  (try simp only [Act.put, List.setIfInBounds_toArray, List.set_cons_zero, List.set_cons_succ])
                  refine Plan.start (plan := [13]) (fuel := 0) (by decide +kernel) (by assumption) ?_
                  refine Plan.free (i := 13) (ds := some 7) (v := ?_) rfl rfl rfl ?_ (fun _ _ _ h => h) ?_
                  rotate_left
                  · (intro w hSw; (try dsimp only at hSw); go_simp; first | done | with_reducible rfl)
                  (try simp only [Act.put, List.setIfInBounds_toArray, List.set_cons_zero, List.set_cons_succ])
                  refine Plan.stop (fun hHeld => ?_)
                  refine wpAnyH_done (by decide +kernel) ?_ _
                  have BZ := Lib.hid (BU.out.trans (F5.out.mono (Nat.le_succ _)))
                  have hmv := Want.moved T2.out BZ.out (by have := B2.out.size; omega) hkl2 HL2.out HM3.out HM2.out HXF.out O5.out
                  rw [Nat.sub_add_cancel hn1] at hmv
                  have TZ := Lib.hid hmv
                  have BY := Lib.hid (B2.out.trans (BZ.out.mono B2.out.size))
                  clear hmv F1 F2 F3 F4 F5
                  go_wp2_with fail
                  go_roundw
                  case rel => exact ⟨k + 1, _, by omega, by rw [hold_len, List.length_map]; omega, by go_num, TZ, BY⟩
                  case measure => simp [intOf]; omega
                exact AllReadyH.nil
              refine AllReadyH.cons (o := _) rfl ?_ ?_
              · intro K hK
                rw [if_pos (wanted_none (by rfl))]
                (go_simp; obtain ⟨W2, hW2⟩ : ∃ W, W = (W1.alloc (.cells #[.int .i64 M2[kk].f, .int .i64 M2[kk].t, .slice xa M2[kk].bs.length xc] 30)) := ⟨_, rfl⟩; rw [← hW2]; have ZS2 : Hid (w2.heap.size + 1 ≤ W1.heap.size) := Nat.le_trans (Nat.le_of_eq HUS.out.symm) F1.out.size; have F2 : Hid (Below (w2.heap.size + 1) U.drew W2) := (by rw [hW2]; exact (F1.out.alloc ZS2.out _)); have AL2 : Hid (Below W1.heap.size W1 W2) := (by rw [hW2]; exact below_alloc _ _); have NB2 : Hid (W2.heap[W1.heap.size]? = some (.cells #[.int .i64 M2[kk].f, .int .i64 M2[kk].t, .slice xa M2[kk].bs.length xc] 30)) := (by rw [hW2]; exact alloc_block _ _ _ _); have O2 : Hid (W2.ownsRow (w2.heap.size + 1) 30 3 (.slice (some ⟨U.heap.size, 0, none⟩) 0 0) 0 []) := ownsRow_below O1.out AL2.out; have NE2 : Hid (∀ k, (Value.slice (some ⟨U.heap.size, 0, none⟩) 0 0).ownBlock = some k → k ≠ W1.heap.size) := fun k hk e => (by have := (O1.out.lt k hk).2; omega); clear hW2)
                refine hK.out _ _ ?_ (fun hHeld => ?_)
                · (try dsimp only)
                  exact HS19.out _ F2.out
                clear hK K
                (try simp only [Act.put, List.setIfInBounds_toArray, List.set_cons_zero, List.set_cons_succ])
                refine wpAnyH_ready (rs := [4]) (by decide +kernel) (by simp) ?_
                refine AllReadyH.cons (o := _) rfl ?_ AllReadyH.nil
                intro K hK
                rw [if_pos (wanted_none (by rfl))]
                (refine wp_append_at _ _ _ 34 (by rfl) (w2.heap.size + 1) 30 i0 _ 3 40 Try.underlying34 hi hz0 hz1 hz2 rfl (by decide) (.slice (some ⟨U.heap.size, 0, none⟩) 0 0) 0 [] (by rfl) O2.out ⟨g, 0, none⟩ kk (kk + 1) (((M2.flatMap Lt.cells).drop 0).take (kk * 3)) (by rfl) (part_len _ _ _ (by rw [cells_len, HL2.out]; omega)) (row_src (HG.out _ F2.out) HR7.out 0 (kk * 3) (by omega)) (part_one HONE.out _ _) (by unfold maxLen; omega) (by omega) (Nat.le_trans (Nat.le_of_eq HUS.out.symm) F2.out.size) ?_; intro v3 W3 hown3 hgrow3 hat3; have O3 : Hid (W3.ownsRow (w2.heap.size + 1) 30 3 v3 kk ((M2.flatMap Lt.cells).take (kk * 3))) := (by have h := hown3; simp only [Nat.zero_add, List.nil_append, List.drop_zero] at h; exact h); obtain ⟨b3, cc3, hv3⟩ : ∃ a c, v3 = .slice a kk c := net_form O3.out; subst hv3; have F3 : Hid (Below (w2.heap.size + 1) U.drew W3) := F2.out.grown hgrow3 (Nat.le_trans (Nat.le_of_eq HUS.out.symm) F2.out.size) (fun k hk => (O2.out.lt k hk).1); have NB3 : Hid (W3.heap[W1.heap.size]? = some (.cells #[.int .i64 M2[kk].f, .int .i64 M2[kk].t, .slice xa M2[kk].bs.length xc] 30)) := (hgrow3.block _ (lt_of_block NB2.out) (fun e => NE2.out _ e.symm rfl)).trans NB2.out; have NE3 : Hid (∀ k, (Value.slice b3 kk cc3).ownBlock = some k → k ≠ W1.heap.size) := fun k hk e => (by rcases hat3 with h | h; exact NE2.out k (h ▸ hk) e; rw [h] at hk; injection hk with hk; have := lt_of_block NB2.out; omega); clear hown3 hgrow3 hat3)
                refine hK.out _ _ ?_ (fun hHeld => ?_)
                · (try dsimp only)
                  exact HS19.out _ F3.out
                clear hK K
                (try simp only [Act.put, List.setIfInBounds_toArray, List.set_cons_zero, List.set_cons_succ])
                refine wpAnyH_ready (rs := [9]) (by decide +kernel) (by simp) ?_
                refine AllReadyH.cons (o := _) rfl ?_ AllReadyH.nil
                intro K hK
                rw [if_pos (wanted_none (by rfl))]
                (refine wp_append_at _ _ _ 34 (by rfl) (w2.heap.size + 1) 30 i0 _ 3 40 Try.underlying34 hi hz0 hz1 hz2 rfl (by decide) (.slice b3 kk cc3) kk ((M2.flatMap Lt.cells).take (kk * 3)) (by rfl) O3.out ⟨g, 0, none⟩ 0 0 [] (by rfl) rfl (fun j u hj => by simp at hj) (fun u hu => by cases hu) (by unfold maxLen; omega) (by omega) (Nat.le_trans (Nat.le_of_eq HUS.out.symm) F3.out.size) ?_; intro v4 W4 hown4 hgrow4 hat4; have O4 : Hid (W4.ownsRow (w2.heap.size + 1) 30 3 v4 (M.length - 1) ((M2.eraseIdx kk).flatMap Lt.cells)) := (by have h := hown4; rw [moved_empty (by rw [HL2.out]; exact hkl) (by rw [HL2.out]; omega)] at h; have e : M.length - 1 = kk + 0 := (by omega); rw [e]; exact h); obtain ⟨b4, cc4, hv4⟩ : ∃ a c, v4 = .slice a (M.length - 1) c := net_form O4.out; subst hv4; have F4 : Hid (Below (w2.heap.size + 1) U.drew W4) := F3.out.grown hgrow4 (Nat.le_trans (Nat.le_of_eq HUS.out.symm) F3.out.size) (fun k hk => (O3.out.lt k hk).1); have NB4 : Hid (W4.heap[W1.heap.size]? = some (.cells #[.int .i64 M2[kk].f, .int .i64 M2[kk].t, .slice xa M2[kk].bs.length xc] 30)) := (hgrow4.block _ (lt_of_block NB3.out) (fun e => NE3.out _ e.symm rfl)).trans NB3.out; have NE4 : Hid (∀ k, (Value.slice b4 (M.length - 1) cc4).ownBlock = some k → k ≠ W1.heap.size) := fun k hk e => (by rcases hat4 with h | h; exact NE3.out k (h ▸ hk) e; rw [h] at hk; injection hk with hk; have := lt_of_block NB3.out; omega); clear hown4 hgrow4 hat4)
                refine hK.out _ _ ?_ (fun hHeld => ?_)
                · (try dsimp only)
                  exact HS19.out _ F4.out
                clear hK K
                (try simp only [Act.put, List.setIfInBounds_toArray, List.set_cons_zero, List.set_cons_succ])
                refine wpAnyH_ready (rs := [12]) (by decide +kernel) (by simp) ?_
                refine AllReadyH.cons (o := _) rfl ?_ AllReadyH.nil
                intro K hK
                rw [if_pos (wanted_none (by rfl))]
                (refine wp_append_at _ _ _ 34 (by rfl) (w2.heap.size + 1) 30 i0 _ 3 40 Try.underlying34 hi hz0 hz1 hz2 rfl (by decide) (.slice b4 (M.length - 1) cc4) (M.length - 1) ((M2.eraseIdx kk).flatMap Lt.cells) (by rfl) O4.out ⟨W1.heap.size, 0, none⟩ 1 1 [.int .i64 M2[kk].f, .int .i64 M2[kk].t, .slice xa M2[kk].bs.length xc] (by rfl) rfl (World.news_of_block NB4.out) (one_lt _ _ _ _ _) (by unfold maxLen; omega) (by omega) (Nat.le_trans (Nat.le_of_eq HUS.out.symm) F4.out.size) ?_; intro v5 W5 hown5 hgrow5 hat5; have O5 : Hid (W5.ownsRow (w2.heap.size + 1) 30 3 v5 (M.length - 1 + 1) ((M2.eraseIdx kk).flatMap Lt.cells ++ [.int .i64 M2[kk].f, .int .i64 M2[kk].t, .slice xa M2[kk].bs.length xc])) := hown5; obtain ⟨b5, cc5, hv5⟩ : ∃ a c, v5 = .slice a (M.length - 1 + 1) c := net_form O5.out; subst hv5; have F5 : Hid (Below (w2.heap.size + 1) U.drew W5) := F4.out.grown hgrow5 (Nat.le_trans (Nat.le_of_eq HUS.out.symm) F4.out.size) (fun k hk => (O4.out.lt k hk).1); have NB5 : Hid (W5.heap[W1.heap.size]? = some (.cells #[.int .i64 M2[kk].f, .int .i64 M2[kk].t, .slice xa M2[kk].bs.length xc] 30)) := (hgrow5.block _ (lt_of_block NB4.out) (fun e => NE4.out _ e.symm rfl)).trans NB4.out; have NE5 : Hid (∀ k, (Value.slice b5 (M.length - 1 + 1) cc5).ownBlock = some k → k ≠ W1.heap.size) := fun k hk e => (by rcases hat5 with h | h; exact NE4.out k (h ▸ hk) e; rw [h] at hk; injection hk with hk; have := lt_of_block NB4.out; omega); clear hown5 hgrow5 hat5)
                refine hK.out _ _ ?_ (fun hHeld => ?_)
                · (try dsimp only)
                  exact HS19.out _ F5.out
                clear hK K
                (try simp only [Act.put, List.setIfInBounds_toArray, List.set_cons_zero, List.set_cons_succ])
                refine Plan.start (plan := [13]) (fuel := 0) (by decide +kernel) (by assumption) ?_
                refine Plan.free (i := 13) (ds := some 7) (v := ?_) rfl rfl rfl ?_ (fun _ _ _ h => h) ?_
                rotate_left
                · (intro w hSw; (try dsimp only at hSw); go_simp; first | done | with_reducible rfl)
                (try simp only [Act.put, List.setIfInBounds_toArray, List.set_cons_zero, List.set_cons_succ])
                refine Plan.stop (fun hHeld => ?_)
                refine wpAnyH_done (by decide +kernel) ?_ _
                have BZ := Lib.hid (BU.out.trans (F5.out.mono (Nat.le_succ _)))
                have hmv := Want.moved T2.out BZ.out (by have := B2.out.size; omega) hkl2 HL2.out HM3.out HM2.out HXF.out O5.out
                rw [Nat.sub_add_cancel hn1] at hmv
                have TZ := Lib.hid hmv
                have BY := Lib.hid (B2.out.trans (BZ.out.mono B2.out.size))
                clear hmv F1 F2 F3 F4 F5
                go_wp2_with fail
                go_roundw
                case rel => exact ⟨k + 1, _, by omega, by rw [hold_len, List.length_map]; omega, by go_num, TZ, BY⟩
                case measure => simp [intOf]; omega
              exact AllReadyH.nil
            refine AllReadyH.cons (o := _) rfl ?_ ?_
            · intro K hK
              rw [if_pos (wanted_none (by rfl))]
              (go_simp; obtain ⟨W1, hW1⟩ : ∃ W, W = (U.alloc (.cells #[.int .i64 M2[kk].f, .int .i64 M2[kk].t, .slice xa M2[kk].bs.length xc] 30)).drew := ⟨_, rfl⟩; rw [← hW1]; have ZS1 : Hid (w2.heap.size + 1 ≤ U.heap.size) := Nat.le_of_eq HUS.out.symm; have F1 : Hid (Below (w2.heap.size + 1) U.drew W1) := (by rw [hW1]; exact (below_src ((Below.refl (w2.heap.size + 1) U).alloc ZS1.out _).drew)); have AL1 : Hid (Below U.heap.size U W1) := (by rw [hW1]; exact below_alloc _ _ |>.drew); have NB1 : Hid (W1.heap[U.heap.size]? = some (.cells #[.int .i64 M2[kk].f, .int .i64 M2[kk].t, .slice xa M2[kk].bs.length xc] 30)) := (by rw [hW1]; exact alloc_block _ _ _ _); clear hW1)
              refine hK.out _ _ ?_ (fun hHeld => ?_)
              · (try dsimp only)
                exact HS19.out _ F1.out
              clear hK K
              (try simp only [Act.put, List.setIfInBounds_toArray, List.set_cons_zero, List.set_cons_succ])
              refine wpAnyH_ready (rs := [0]) (by decide +kernel) (by simp) ?_
              refine AllReadyH.cons (o := _) rfl ?_ AllReadyH.nil
              intro K hK
              rw [if_pos (wanted_none (by rfl))]
              (go_simp; obtain ⟨W2, hW2⟩ : ∃ W, W = (W1.alloc (.cells #[] 30)) := ⟨_, rfl⟩; rw [← hW2]; have ZS2 : Hid (w2.heap.size + 1 ≤ W1.heap.size) := Nat.le_trans (Nat.le_of_eq HUS.out.symm) F1.out.size; have F2 : Hid (Below (w2.heap.size + 1) U.drew W2) := (by rw [hW2]; exact (F1.out.alloc ZS2.out _)); have AL2 : Hid (Below W1.heap.size W1 W2) := (by rw [hW2]; exact below_alloc _ _); have O2 : Hid (W2.ownsRow (w2.heap.size + 1) 30 3 (.slice (some ⟨W1.heap.size, 0, none⟩) 0 0) 0 []) := (by rw [hW2]; exact ownsRow_base ZS2.out (own_emptyL _)); have NE2 : Hid (∀ k, (Value.slice (some ⟨W1.heap.size, 0, none⟩) 0 0).ownBlock = some k → k ≠ U.heap.size) := fun k hk e => (by have := lt_of_block NB1.out; injection hk with hk; have hk : W1.heap.size = k := hk; have : U.heap.size < W1.heap.size := this; omega); have NB2 : Hid (W2.heap[U.heap.size]? = some (.cells #[.int .i64 M2[kk].f, .int .i64 M2[kk].t, .slice xa M2[kk].bs.length xc] 30)) := stays_block AL2.out NB1.out; clear hW2)
              refine hK.out _ _ ?_ (fun hHeld => ?_)
              · (try dsimp only)
                exact HS19.out _ F2.out
              clear hK K
              (try simp only [Act.put, List.setIfInBounds_toArray, List.set_cons_zero, List.set_cons_succ])
              refine wpAnyH_ready (rs := [4]) (by decide +kernel) (by simp) ?_
              refine AllReadyH.cons (o := _) rfl ?_ AllReadyH.nil
              intro K hK
              rw [if_pos (wanted_none (by rfl))]
              (refine wp_append_at _ _ _ 34 (by rfl) (w2.heap.size + 1) 30 i0 _ 3 40 Try.underlying34 hi hz0 hz1 hz2 rfl (by decide) (.slice (some ⟨W1.heap.size, 0, none⟩) 0 0) 0 [] (by rfl) O2.out ⟨g, 0, none⟩ kk (kk + 1) (((M2.flatMap Lt.cells).drop 0).take (kk * 3)) (by rfl) (part_len _ _ _ (by rw [cells_len, HL2.out]; omega)) (row_src (HG.out _ F2.out) HR7.out 0 (kk * 3) (by omega)) (part_one HONE.out _ _) (by unfold maxLen; omega) (by omega) (Nat.le_trans (Nat.le_of_eq HUS.out.symm) F2.out.size) ?_; intro v3 W3 hown3 hgrow3 hat3; have O3 : Hid (W3.ownsRow (w2.heap.size + 1) 30 3 v3 kk ((M2.flatMap Lt.cells).take (kk * 3))) := (by have h := hown3; simp only [Nat.zero_add, List.nil_append, List.drop_zero] at h; exact h); obtain ⟨b3, cc3, hv3⟩ : ∃ a c, v3 = .slice a kk c := net_form O3.out; subst hv3; have F3 : Hid (Below (w2.heap.size + 1) U.drew W3) := F2.out.grown hgrow3 (Nat.le_trans (Nat.le_of_eq HUS.out.symm) F2.out.size) (fun k hk => (O2.out.lt k hk).1); have NB3 : Hid (W3.heap[U.heap.size]? = some (.cells #[.int .i64 M2[kk].f, .int .i64 M2[kk].t, .slice xa M2[kk].bs.length xc] 30)) := (hgrow3.block _ (lt_of_block NB2.out) (fun e => NE2.out _ e.symm rfl)).trans NB2.out; have NE3 : Hid (∀ k, (Value.slice b3 kk cc3).ownBlock = some k → k ≠ U.heap.size) := fun k hk e => (by rcases hat3 with h | h; exact NE2.out k (h ▸ hk) e; rw [h] at hk; injection hk with hk; have := lt_of_block NB2.out; omega); clear hown3 hgrow3 hat3)
              refine hK.out _ _ ?_ (fun hHeld => ?_)
              · (try dsimp only)
                exact HS19.out _ F3.out
              clear hK K
              (try simp only [Act.put, List.setIfInBounds_toArray, List.set_cons_zero, List.set_cons_succ])
              refine wpAnyH_ready (rs := [9]) (by decide +kernel) (by simp) ?_
              refine AllReadyH.cons (o := _) rfl ?_ AllReadyH.nil
              intro K hK
              rw [if_pos (wanted_none (by rfl))]
              (refine wp_append_at _ _ _ 34 (by rfl) (w2.heap.size + 1) 30 i0 _ 3 40 Try.underlying34 hi hz0 hz1 hz2 rfl (by decide) (.slice b3 kk cc3) kk ((M2.flatMap Lt.cells).take (kk * 3)) (by rfl) O3.out ⟨g, 0, none⟩ 0 0 [] (by rfl) rfl (fun j u hj => by simp at hj) (fun u hu => by cases hu) (by unfold maxLen; omega) (by omega) (Nat.le_trans (Nat.le_of_eq HUS.out.symm) F3.out.size) ?_; intro v4 W4 hown4 hgrow4 hat4; have O4 : Hid (W4.ownsRow (w2.heap.size + 1) 30 3 v4 (M.length - 1) ((M2.eraseIdx kk).flatMap Lt.cells)) := (by have h := hown4; rw [moved_empty (by rw [HL2.out]; exact hkl) (by rw [HL2.out]; omega)] at h; have e : M.length - 1 = kk + 0 := (by omega); rw [e]; exact h); obtain ⟨b4, cc4, hv4⟩ : ∃ a c, v4 = .slice a (M.length - 1) c := net_form O4.out; subst hv4; have F4 : Hid (Below (w2.heap.size + 1) U.drew W4) := F3.out.grown hgrow4 (Nat.le_trans (Nat.le_of_eq HUS.out.symm) F3.out.size) (fun k hk => (O3.out.lt k hk).1); have NB4 : Hid (W4.heap[U.heap.size]? = some (.cells #[.int .i64 M2[kk].f, .int .i64 M2[kk].t, .slice xa M2[kk].bs.length xc] 30)) := (hgrow4.block _ (lt_of_block NB3.out) (fun e => NE3.out _ e.symm rfl)).trans NB3.out; have NE4 : Hid (∀ k, (Value.slice b4 (M.length - 1) cc4).ownBlock = some k → k ≠ U.heap.size) := fun k hk e => (by rcases hat4 with h | h; exact NE3.out k (h ▸ hk) e; rw [h] at hk; injection hk with hk; have := lt_of_block NB3.out; omega); clear hown4 hgrow4 hat4)
              refine hK.out _ _ ?_ (fun hHeld => ?_)
              · (try dsimp only)
                exact HS19.out _ F4.out
              clear hK K
              (try simp only [Act.put, List.setIfInBounds_toArray, List.set_cons_zero, List.set_cons_succ])
              refine wpAnyH_ready (rs := [12]) (by decide +kernel) (by simp) ?_
              refine AllReadyH.cons (o := _) rfl ?_ AllReadyH.nil
              intro K hK
              rw [if_pos (wanted_none (by rfl))]
              (refine wp_append_at _ _ _ 34 (by rfl) (w2.heap.size + 1) 30 i0 _ 3 40 Try.underlying34 hi hz0 hz1 hz2 rfl (by decide) (.slice b4 (M.length - 1) cc4) (M.length - 1) ((M2.eraseIdx kk).flatMap Lt.cells) (by rfl) O4.out ⟨U.heap.size, 0, none⟩ 1 1 [.int .i64 M2[kk].f, .int .i64 M2[kk].t, .slice xa M2[kk].bs.length xc] (by rfl) rfl (World.news_of_block NB4.out) (one_lt _ _ _ _ _) (by unfold maxLen; omega) (by omega) (Nat.le_trans (Nat.le_of_eq HUS.out.symm) F4.out.size) ?_; intro v5 W5 hown5 hgrow5 hat5; have O5 : Hid (W5.ownsRow (w2.heap.size + 1) 30 3 v5 (M.length - 1 + 1) ((M2.eraseIdx kk).flatMap Lt.cells ++ [.int .i64 M2[kk].f, .int .i64 M2[kk].t, .slice xa M2[kk].bs.length xc])) := hown5; obtain ⟨b5, cc5, hv5⟩ : ∃ a c, v5 = .slice a (M.length - 1 + 1) c := net_form O5.out; subst hv5; have F5 : Hid (Below (w2.heap.size + 1) U.drew W5) := F4.out.grown hgrow5 (Nat.le_trans (Nat.le_of_eq HUS.out.symm) F4.out.size) (fun k hk => (O4.out.lt k hk).1); have NB5 : Hid (W5.heap[U.heap.size]? = some (.cells #[.int .i64 M2[kk].f, .int .i64 M2[kk].t, .slice xa M2[kk].bs.length xc] 30)) := (hgrow5.block _ (lt_of_block NB4.out) (fun e => NE4.out _ e.symm rfl)).trans NB4.out; have NE5 : Hid (∀ k, (Value.slice b5 (M.length - 1 + 1) cc5).ownBlock = some k → k ≠ U.heap.size) := fun k hk e => (by rcases hat5 with h | h; exact NE4.out k (h ▸ hk) e; rw [h] at hk; injection hk with hk; have := lt_of_block NB4.out; omega); clear hown5 hgrow5 hat5)
              refine hK.out _ _ ?_ (fun hHeld => ?_)
              · (try dsimp only)
                exact HS19.out _ F5.out
              clear hK K
              (try simp only [Act.put, List.setIfInBounds_toArray, List.set_cons_zero, List.set_cons_succ])
              refine Plan.start (plan := [13]) (fuel := 0) (by decide +kernel) (by assumption) ?_
              refine Plan.free (i := 13) (ds := some 7) (v := ?_) rfl rfl rfl ?_ (fun _ _ _ h => h) ?_
              rotate_left
              · (intro w hSw; (try dsimp only at hSw); go_simp; first | done | with_reducible rfl)
              (try simp only [Act.put, List.setIfInBounds_toArray, List.set_cons_zero, List.set_cons_succ])
              refine Plan.stop (fun hHeld => ?_)
              refine wpAnyH_done (by decide +kernel) ?_ _
              have BZ := Lib.hid (BU.out.trans (F5.out.mono (Nat.le_succ _)))
              have hmv := Want.moved T2.out BZ.out (by have := B2.out.size; omega) hkl2 HL2.out HM3.out HM2.out HXF.out O5.out
              rw [Nat.sub_add_cancel hn1] at hmv
              have TZ := Lib.hid hmv
              have BY := Lib.hid (B2.out.trans (BZ.out.mono B2.out.size))
              clear hmv F1 F2 F3 F4 F5
              go_wp2_with fail
              go_roundw
              case rel => exact ⟨k + 1, _, by omega, by rw [hold_len, List.length_map]; omega, by go_num, TZ, BY⟩
              case measure => simp [intOf]; omega
            exact AllReadyH.nil
          · go_wp2_with fail
            generalize w2.alloc (.cells #[.int .i64 M2[kk].f, .int .i64 M2[kk].t, .slice xa M2[kk].bs.length xc] 30) = U at *
            obtain ⟨-, x0, x1, x2⟩ := three_cells ob0
            have HS19 : Hid (∀ W, Below (w2.heap.size + 1) U.drew W → W.cell? ⟨w2.heap.size, 0, none⟩ = some (.int .i64 M2[kk].f) ∧ W.cell? ⟨w2.heap.size, 1, none⟩ = some (.int .i64 M2[kk].t) ∧ W.cell? ⟨w2.heap.size, 2, none⟩ = some (.slice xa M2[kk].bs.length xc)) := fun W hb => ⟨(hb.cell (p := ⟨w2.heap.size, 0, none⟩) (Nat.lt_succ_self _)).trans x0, (hb.cell (p := ⟨w2.heap.size, 1, none⟩) (Nat.lt_succ_self _)).trans x1, (hb.cell (p := ⟨w2.heap.size, 2, none⟩) (Nat.lt_succ_self _)).trans x2⟩
            have HG : Hid (∀ W, Below (w2.heap.size + 1) U.drew W → W.heap[g]? = some (.cells cur 30 (0, 0))) := fun W hb => (hb.block g (by omega)).trans (stays_block bu0.drew H3.out)
            have FB : Hid (Below (w2.heap.size + 1) U.drew U.drew) := Below.refl _ _
            have BU : Hid (Below w2.heap.size w2 U.drew) := bu0.drew
            have HUS : Hid (U.heap.size = w2.heap.size + 1) := hus
            clear x0 x1 x2 ob0 bu0 hus r0 r1 r2
            refine wp_region_held_drew (S := (fun W => W.cell? ⟨w2.heap.size, 0, none⟩ = some (.int .i64 M2[kk].f) ∧ W.cell? ⟨w2.heap.size, 1, none⟩ = some (.int .i64 M2[kk].t) ∧ W.cell? ⟨w2.heap.size, 2, none⟩ = some (.slice xa M2[kk].bs.length xc))) (by kernel_rfl) ?_ (fun hHeld => ?_)
            · (try dsimp only)
              exact HS19.out _ FB.out
            refine Plan.start (plan := [1, 2, 3, 5, 6, 7, 8, 10]) (fuel := 6) (by decide +kernel) (by assumption) ?_
            refine Plan.free (i := 1) (ds := some 81) (v := ?_) rfl rfl rfl ?_ (fun _ _ _ h => h) ?_
            rotate_left
            · (intro w hSw; (try dsimp only at hSw); go_simp; first | done | with_reducible rfl)
            (try simp only [Act.put, List.setIfInBounds_toArray, List.set_cons_zero, List.set_cons_succ])
            refine Plan.free (i := 2) (ds := some 82) (v := ?_) rfl rfl rfl ?_ (fun _ _ _ h => h) ?_
            rotate_left
            · (intro w hSw; (try dsimp only at hSw); go_simp; first | done | with_reducible rfl)
            (try simp only [Act.put, List.setIfInBounds_toArray, List.set_cons_zero, List.set_cons_succ])
            refine Plan.free (i := 3) (ds := some 83) (v := ?_) rfl rfl rfl ?_ (fun _ _ _ h => h) ?_
            rotate_left
            · (intro w hSw; (try dsimp only at hSw); go_simp; first | done | with_reducible rfl)
            (try simp only [Act.put, List.setIfInBounds_toArray, List.set_cons_zero, List.set_cons_succ])
            refine Plan.free (i := 5) (ds := some 85) (v := ?_) rfl rfl rfl ?_ (fun _ _ _ h => h) ?_
            rotate_left
            · (intro w hSw; (try dsimp only at hSw); go_simp; first | done | with_reducible rfl)
            (try simp only [Act.put, List.setIfInBounds_toArray, List.set_cons_zero, List.set_cons_succ])
            refine Plan.free (i := 6) (ds := some 86) (v := ?_) rfl rfl rfl ?_ (fun _ _ _ h => h) ?_
            rotate_left
            · (intro w hSw; (try dsimp only at hSw); go_simp; first | done | with_reducible rfl)
            (try simp only [Act.put, List.setIfInBounds_toArray, List.set_cons_zero, List.set_cons_succ])
            refine Plan.free (i := 7) (ds := some 87) (v := ?_) rfl rfl rfl ?_ (fun _ _ _ h => h) ?_
            rotate_left
            · (intro w hSw; (try dsimp only at hSw); go_simp; first | done | with_reducible rfl)
            (try simp only [Act.put, List.setIfInBounds_toArray, List.set_cons_zero, List.set_cons_succ])
            refine Plan.free (i := 8) (ds := some 88) (v := ?_) rfl rfl rfl ?_ (fun _ _ _ h => h) ?_
            rotate_left
            · (intro w hSw; (try dsimp only at hSw); go_simp; first | done | with_reducible rfl)
            (try simp only [Act.put, List.setIfInBounds_toArray, List.set_cons_zero, List.set_cons_succ])
            refine Plan.free (i := 10) (ds := some 90) (v := ?_) rfl rfl rfl ?_ (fun _ _ _ h => h) ?_
            rotate_left
            · (intro w hSw; (try dsimp only at hSw); go_simp; first | done | with_reducible rfl)
            (try simp only [Act.put, List.setIfInBounds_toArray, List.set_cons_zero, List.set_cons_succ])
            refine Plan.stop (fun hHeld => ?_)
            refine wpAnyH_ready (rs := [0, 11]) (by decide +kernel) (by simp) ?_
            refine AllReadyH.cons (o := _) rfl ?_ ?_
            · intro K hK
              rw [if_pos (wanted_none (by rfl))]
              (go_simp; obtain ⟨W1, hW1⟩ : ∃ W, W = (U.alloc (.cells #[] 30)).drew := ⟨_, rfl⟩; rw [← hW1]; have ZS1 : Hid (w2.heap.size + 1 ≤ U.heap.size) := Nat.le_of_eq HUS.out.symm; have F1 : Hid (Below (w2.heap.size + 1) U.drew W1) := (by rw [hW1]; exact (below_src ((Below.refl (w2.heap.size + 1) U).alloc ZS1.out _).drew)); have AL1 : Hid (Below U.heap.size U W1) := (by rw [hW1]; exact below_alloc _ _ |>.drew); have O1 : Hid (W1.ownsRow (w2.heap.size + 1) 30 3 (.slice (some ⟨U.heap.size, 0, none⟩) 0 0) 0 []) := (by rw [hW1]; exact ownsRow_base ZS1.out (own_emptyL _)); clear hW1)
              refine hK.out _ _ ?_ (fun hHeld => ?_)
              · (try dsimp only)
                exact HS19.out _ F1.out
              clear hK K
              (try simp only [Act.put, List.setIfInBounds_toArray, List.set_cons_zero, List.set_cons_succ])
              refine wpAnyH_ready (rs := [4, 11]) (by decide +kernel) (by simp) ?_
              refine AllReadyH.cons (o := _) rfl ?_ ?_
              · intro K hK
                rw [if_pos (wanted_none (by rfl))]
                (refine wp_append_at _ _ _ 34 (by rfl) (w2.heap.size + 1) 30 i0 _ 3 40 Try.underlying34 hi hz0 hz1 hz2 rfl (by decide) (.slice (some ⟨U.heap.size, 0, none⟩) 0 0) 0 [] (by rfl) O1.out ⟨g, 0, none⟩ kk c7 (((M2.flatMap Lt.cells).drop 0).take (kk * 3)) (by rfl) (part_len _ _ _ (by rw [cells_len, HL2.out]; omega)) (row_src (HG.out _ F1.out) HR7.out 0 (kk * 3) (by omega)) (part_one HONE.out _ _) (by unfold maxLen; omega) (by omega) (Nat.le_trans (Nat.le_of_eq HUS.out.symm) F1.out.size) ?_; intro v2 W2 hown2 hgrow2 hat2; have O2 : Hid (W2.ownsRow (w2.heap.size + 1) 30 3 v2 kk ((M2.flatMap Lt.cells).take (kk * 3))) := (by have h := hown2; simp only [Nat.zero_add, List.nil_append, List.drop_zero] at h; exact h); obtain ⟨b2, cc2, hv2⟩ : ∃ a c, v2 = .slice a kk c := net_form O2.out; subst hv2; have F2 : Hid (Below (w2.heap.size + 1) U.drew W2) := F1.out.grown hgrow2 (Nat.le_trans (Nat.le_of_eq HUS.out.symm) F1.out.size) (fun k hk => (O1.out.lt k hk).1); clear hown2 hgrow2 hat2)
                refine hK.out _ _ ?_ (fun hHeld => ?_)
                · (try dsimp only)
                  exact HS19.out _ F2.out
                clear hK K
                (try simp only [Act.put, List.setIfInBounds_toArray, List.set_cons_zero, List.set_cons_succ])
                refine wpAnyH_ready (rs := [9, 11]) (by decide +kernel) (by simp) ?_
                refine AllReadyH.cons (o := _) rfl ?_ ?_
                · intro K hK
                  rw [if_pos (wanted_none (by rfl))]
                  (refine wp_append_at _ _ _ 34 (by rfl) (w2.heap.size + 1) 30 i0 _ 3 40 Try.underlying34 hi hz0 hz1 hz2 rfl (by decide) (.slice b2 kk cc2) kk ((M2.flatMap Lt.cells).take (kk * 3)) (by rfl) O2.out ⟨g, (kk + 1) * 3, none⟩ (M.length - (kk + 1)) (c7 - (kk + 1)) (((M2.flatMap Lt.cells).drop ((kk + 1) * 3)).take ((M.length - (kk + 1)) * 3)) (by rfl) (part_len _ _ _ (by rw [cells_len, HL2.out]; omega)) (row_src (HG.out _ F2.out) HR7.out _ _ (by omega)) (part_one HONE.out _ _) (by unfold maxLen; omega) (by omega) (Nat.le_trans (Nat.le_of_eq HUS.out.symm) F2.out.size) ?_; intro v3 W3 hown3 hgrow3 hat3; have O3 : Hid (W3.ownsRow (w2.heap.size + 1) 30 3 v3 (M.length - 1) ((M2.eraseIdx kk).flatMap Lt.cells)) := (by have h := hown3; rw [← HL2.out, moved_cells (by rw [HL2.out]; exact hkl), HL2.out] at h; have e : M.length - 1 = kk + (M.length - (kk + 1)) := (by omega); rw [e]; exact h); obtain ⟨b3, cc3, hv3⟩ : ∃ a c, v3 = .slice a (M.length - 1) c := net_form O3.out; subst hv3; have F3 : Hid (Below (w2.heap.size + 1) U.drew W3) := F2.out.grown hgrow3 (Nat.le_trans (Nat.le_of_eq HUS.out.symm) F2.out.size) (fun k hk => (O2.out.lt k hk).1); clear hown3 hgrow3 hat3)
                  refine hK.out _ _ ?_ (fun hHeld => ?_)
                  · (try dsimp only)
                    exact HS19.out _ F3.out
                  clear hK K
                  (try simp only [Act.put, List.setIfInBounds_toArray, List.set_cons_zero, List.set_cons_succ])
                  refine wpAnyH_ready (rs := [11]) (by decide +kernel) (by simp) ?_
                  refine AllReadyH.cons (o := _) rfl ?_ AllReadyH.nil
                  intro K hK
                  rw [if_pos (wanted_none (by rfl))]
                  (go_simp; obtain ⟨W4, hW4⟩ : ∃ W, W = (W3.alloc (.cells #[.int .i64 M2[kk].f, .int .i64 M2[kk].t, .slice xa M2[kk].bs.length xc] 30)) := ⟨_, rfl⟩; rw [← hW4]; have ZS4 : Hid (w2.heap.size + 1 ≤ W3.heap.size) := Nat.le_trans (Nat.le_of_eq HUS.out.symm) F3.out.size; have F4 : Hid (Below (w2.heap.size + 1) U.drew W4) := (by rw [hW4]; exact (F3.out.alloc ZS4.out _)); have AL4 : Hid (Below W3.heap.size W3 W4) := (by rw [hW4]; exact below_alloc _ _); have NB4 : Hid (W4.heap[W3.heap.size]? = some (.cells #[.int .i64 M2[kk].f, .int .i64 M2[kk].t, .slice xa M2[kk].bs.length xc] 30)) := (by rw [hW4]; exact alloc_block _ _ _ _); have O4 : Hid (W4.ownsRow (w2.heap.size + 1) 30 3 (.slice b3 (M.length - 1) cc3) (M.length - 1) ((M2.eraseIdx kk).flatMap Lt.cells)) := ownsRow_below O3.out AL4.out; have NE4 : Hid (∀ k, (Value.slice b3 (M.length - 1) cc3).ownBlock = some k → k ≠ W3.heap.size) := fun k hk e => (by have := (O3.out.lt k hk).2; omega); clear hW4)
                  refine hK.out _ _ ?_ (fun hHeld => ?_)
                  · (try dsimp only)
                    exact HS19.out _ F4.out
                  clear hK K
                  (try simp only [Act.put, List.setIfInBounds_toArray, List.set_cons_zero, List.set_cons_succ])
                  refine wpAnyH_ready (rs := [12]) (by decide +kernel) (by simp) ?_
                  refine AllReadyH.cons (o := _) rfl ?_ AllReadyH.nil
                  intro K hK
                  rw [if_pos (wanted_none (by rfl))]
                  (refine wp_append_at _ _ _ 34 (by rfl) (w2.heap.size + 1) 30 i0 _ 3 40 Try.underlying34 hi hz0 hz1 hz2 rfl (by decide) (.slice b3 (M.length - 1) cc3) (M.length - 1) ((M2.eraseIdx kk).flatMap Lt.cells) (by rfl) O4.out ⟨W3.heap.size, 0, none⟩ 1 1 [.int .i64 M2[kk].f, .int .i64 M2[kk].t, .slice xa M2[kk].bs.length xc] (by rfl) rfl (World.news_of_block NB4.out) (one_lt _ _ _ _ _) (by unfold maxLen; omega) (by omega) (Nat.le_trans (Nat.le_of_eq HUS.out.symm) F4.out.size) ?_; intro v5 W5 hown5 hgrow5 hat5; have O5 : Hid (W5.ownsRow (w2.heap.size + 1) 30 3 v5 (M.length - 1 + 1) ((M2.eraseIdx kk).flatMap Lt.cells ++ [.int .i64 M2[kk].f, .int .i64 M2[kk].t, .slice xa M2[kk].bs.length xc])) := hown5; obtain ⟨b5, cc5, hv5⟩ : ∃ a c, v5 = .slice a (M.length - 1 + 1) c := net_form O5.out; subst hv5; have F5 : Hid (Below (w2.heap.size + 1) U.drew W5) := F4.out.grown hgrow5 (Nat.le_trans (Nat.le_of_eq HUS.out.symm) F4.out.size) (fun k hk => (O4.out.lt k hk).1); have NB5 : Hid (W5.heap[W3.heap.size]? = some (.cells #[.int .i64 M2[kk].f, .int .i64 M2[kk].t, .slice xa M2[kk].bs.length xc] 30)) := (hgrow5.block _ (lt_of_block NB4.out) (fun e => NE4.out _ e.symm rfl)).trans NB4.out; have NE5 : Hid (∀ k, (Value.slice b5 (M.length - 1 + 1) cc5).ownBlock = some k → k ≠ W3.heap.size) := fun k hk e => (by rcases hat5 with h | h; exact NE4.out k (h ▸ hk) e; rw [h] at hk; injection hk with hk; have := lt_of_block NB4.out; omega); clear hown5 hgrow5 hat5)
                  refine hK.out _ _ ?_ (fun hHeld => ?_)
                  · (try dsimp only)
                    exact HS19.out _ F5.out
                  clear hK K
                  (try simp only [Act.put, List.setIfInBounds_toArray, List.set_cons_zero, List.set_cons_succ])
                  refine Plan.start (plan := [13]) (fuel := 0) (by decide +kernel) (by assumption) ?_
                  refine Plan.free (i := 13) (ds := some 7) (v := ?_) rfl rfl rfl ?_ (fun _ _ _ h => h) ?_
                  rotate_left
                  · (intro w hSw; (try dsimp only at hSw); go_simp; first | done | with_reducible rfl)
                  (try simp only [Act.put, List.setIfInBounds_toArray, List.set_cons_zero, List.set_cons_succ])
                  refine Plan.stop (fun hHeld => ?_)
                  refine wpAnyH_done (by decide +kernel) ?_ _
                  have BZ := Lib.hid (BU.out.trans (F5.out.mono (Nat.le_succ _)))
                  have hmv := Want.moved T2.out BZ.out (by have := B2.out.size; omega) hkl2 HL2.out HM3.out HM2.out HXF.out O5.out
                  rw [Nat.sub_add_cancel hn1] at hmv
                  have TZ := Lib.hid hmv
                  have BY := Lib.hid (B2.out.trans (BZ.out.mono B2.out.size))
                  clear hmv F1 F2 F3 F4 F5
                  go_wp2_with fail
                  go_roundw
                  case rel => exact ⟨k + 1, _, by omega, by rw [hold_len, List.length_map]; omega, by go_num, TZ, BY⟩
                  case measure => simp [intOf]; omega
                refine AllReadyH.cons (o := _) rfl ?_ ?_
                · intro K hK
                  rw [if_pos (wanted_none (by rfl))]
                  (go_simp; obtain ⟨W3, hW3⟩ : ∃ W, W = (W2.alloc (.cells #[.int .i64 M2[kk].f, .int .i64 M2[kk].t, .slice xa M2[kk].bs.length xc] 30)) := ⟨_, rfl⟩; rw [← hW3]; have ZS3 : Hid (w2.heap.size + 1 ≤ W2.heap.size) := Nat.le_trans (Nat.le_of_eq HUS.out.symm) F2.out.size; have F3 : Hid (Below (w2.heap.size + 1) U.drew W3) := (by rw [hW3]; exact (F2.out.alloc ZS3.out _)); have AL3 : Hid (Below W2.heap.size W2 W3) := (by rw [hW3]; exact below_alloc _ _); have NB3 : Hid (W3.heap[W2.heap.size]? = some (.cells #[.int .i64 M2[kk].f, .int .i64 M2[kk].t, .slice xa M2[kk].bs.length xc] 30)) := (by rw [hW3]; exact alloc_block _ _ _ _); have O3 : Hid (W3.ownsRow (w2.heap.size + 1) 30 3 (.slice b2 kk cc2) kk ((M2.flatMap Lt.cells).take (kk * 3))) := ownsRow_below O2.out AL3.out; have NE3 : Hid (∀ k, (Value.slice b2 kk cc2).ownBlock = some k → k ≠ W2.heap.size) := fun k hk e => (by have := (O2.out.lt k hk).2; omega); clear hW3)
                  refine hK.out _ _ ?_ (fun hHeld => ?_)
                  · (try dsimp only)
                    exact HS19.out _ F3.out
                  clear hK K
                  (try simp only [Act.put, List.setIfInBounds_toArray, List.set_cons_zero, List.set_cons_succ])
                  refine wpAnyH_ready (rs := [9]) (by decide +kernel) (by simp) ?_
                  refine AllReadyH.cons (o := _) rfl ?_ AllReadyH.nil
                  intro K hK
                  rw [if_pos (wanted_none (by rfl))]
                  (refine wp_append_at _ _ _ 34 (by rfl) (w2.heap.size + 1) 30 i0 _ 3 40 Try.underlying34 hi hz0 hz1 hz2 rfl (by decide) (.slice b2 kk cc2) kk ((M2.flatMap Lt.cells).take (kk * 3)) (by rfl) O3.out ⟨g, (kk + 1) * 3, none⟩ (M.length - (kk + 1)) (c7 - (kk + 1)) (((M2.flatMap Lt.cells).drop ((kk + 1) * 3)).take ((M.length - (kk + 1)) * 3)) (by rfl) (part_len _ _ _ (by rw [cells_len, HL2.out]; omega)) (row_src (HG.out _ F3.out) HR7.out _ _ (by omega)) (part_one HONE.out _ _) (by unfold maxLen; omega) (by omega) (Nat.le_trans (Nat.le_of_eq HUS.out.symm) F3.out.size) ?_; intro v4 W4 hown4 hgrow4 hat4; have O4 : Hid (W4.ownsRow (w2.heap.size + 1) 30 3 v4 (M.length - 1) ((M2.eraseIdx kk).flatMap Lt.cells)) := (by have h := hown4; rw [← HL2.out, moved_cells (by rw [HL2.out]; exact hkl), HL2.out] at h; have e : M.length - 1 = kk + (M.length - (kk + 1)) := (by omega); rw [e]; exact h); obtain ⟨b4, cc4, hv4⟩ : ∃ a c, v4 = .slice a (M.length - 1) c := net_form O4.out; subst hv4; have F4 : Hid (Below (w2.heap.size + 1) U.drew W4) := F3.out.grown hgrow4 (Nat.le_trans (Nat.le_of_eq HUS.out.symm) F3.out.size) (fun k hk => (O3.out.lt k hk).1); have NB4 : Hid (W4.heap[W2.heap.size]? = some (.cells #[.int .i64 M2[kk].f, .int .i64 M2[kk].t, .slice xa M2[kk].bs.length xc] 30)) := (hgrow4.block _ (lt_of_block NB3.out) (fun e => NE3.out _ e.symm rfl)).trans NB3.out; have NE4 : Hid (∀ k, (Value.slice b4 (M.length - 1) cc4).ownBlock = some k → k ≠ W2.heap.size) := fun k hk e => (by rcases hat4 with h | h; exact NE3.out k (h ▸ hk) e; rw [h] at hk; injection hk with hk; have := lt_of_block NB3.out; omega); clear hown4 hgrow4 hat4)
                  refine hK.out _ _ ?_ (fun hHeld => ?_)
                  · (try dsimp only)
                    exact HS19.out _ F4.out
                  clear hK K
                  (try simp only [Act.put, List.setIfInBounds_toArray, List.set_cons_zero, List.set_cons_succ])
                  refine wpAnyH_ready (rs := [12]) (by decide +kernel) (by simp) ?_
                  refine AllReadyH.cons (o := _) rfl ?_ AllReadyH.nil
                  intro K hK
                  rw [if_pos (wanted_none (by rfl))]
                  (refine wp_append_at _ _ _ 34 (by rfl) (w2.heap.size + 1) 30 i0 _ 3 40 Try.underlying34 hi hz0 hz1 hz2 rfl (by decide) (.slice b4 (M.length - 1) cc4) (M.length - 1) ((M2.eraseIdx kk).flatMap Lt.cells) (by rfl) O4.out ⟨W2.heap.size, 0, none⟩ 1 1 [.int .i64 M2[kk].f, .int .i64 M2[kk].t, .slice xa M2[kk].bs.length xc] (by rfl) rfl (World.news_of_block NB4.out) (one_lt _ _ _ _ _) (by unfold maxLen; omega) (by omega) (Nat.le_trans (Nat.le_of_eq HUS.out.symm) F4.out.size) ?_; intro v5 W5 hown5 hgrow5 hat5; have O5 : Hid (W5.ownsRow (w2.heap.size + 1) 30 3 v5 (M.length - 1 + 1) ((M2.eraseIdx kk).flatMap Lt.cells ++ [.int .i64 M2[kk].f, .int .i64 M2[kk].t, .slice xa M2[kk].bs.length xc])) := hown5; obtain ⟨b5, cc5, hv5⟩ : ∃ a c, v5 = .slice a (M.length - 1 + 1) c := net_form O5.out; subst hv5; have F5 : Hid (Below (w2.heap.size + 1) U.drew W5) := F4.out.grown hgrow5 (Nat.le_trans (Nat.le_of_eq HUS.out.symm) F4.out.size) (fun k hk => (O4.out.lt k hk).1); have NB5 : Hid (W5.heap[W2.heap.size]? = some (.cells #[.int .i64 M2[kk].f, .int .i64 M2[kk].t, .slice xa M2[kk].bs.length xc] 30)) := (hgrow5.block _ (lt_of_block NB4.out) (fun e => NE4.out _ e.symm rfl)).trans NB4.out; have NE5 : Hid (∀ k, (Value.slice b5 (M.length - 1 + 1) cc5).ownBlock = some k → k ≠ W2.heap.size) := fun k hk e => (by rcases hat5 with h | h; exact NE4.out k (h ▸ hk) e; rw [h] at hk; injection hk with hk; have := lt_of_block NB4.out; omega); clear hown5 hgrow5 hat5)
                  refine hK.out _ _ ?_ (fun hHeld => ?_)
                  · (try dsimp only)
                    exact HS19.out _ F5.out
                  clear hK K
                  (try simp only [Act.put, List.setIfInBounds_toArray, List.set_cons_zero, List.set_cons_succ])
                  refine Plan.start (plan := [13]) (fuel := 0) (by decide +kernel) (by assumption) ?_
                  refine Plan.free (i := 13) (ds := some 7) (v := ?_) rfl rfl rfl ?_ (fun _ _ _ h => h) ?_
                  rotate_left
                  · (intro w hSw; (try dsimp only at hSw); go_simp; first | done | with_reducible rfl)
                  (try simp only [Act.put, List.setIfInBounds_toArray, List.set_cons_zero, List.set_cons_succ])
                  refine Plan.stop (fun hHeld => ?_)
                  refine wpAnyH_done (by decide +kernel) ?_ _
                  have BZ := Lib.hid (BU.out.trans (F5.out.mono (Nat.le_succ _)))
                  have hmv := Want.moved T2.out BZ.out (by have := B2.out.size; omega) hkl2 HL2.out HM3.out HM2.out HXF.out O5.out
                  rw [Nat.sub_add_cancel hn1] at hmv
                  have TZ := Lib.hid hmv
                  have BY := Lib.hid (B2.out.trans (BZ.out.mono B2.out.size))
                  clear hmv F1 F2 F3 F4 F5
                  go_wp2_with fail
                  go_roundw
                  case rel => exact ⟨k + 1, _, by omega, by rw [hold_len, List.length_map]; omega, by go_num, TZ, BY⟩
                  case measure => simp [intOf]; omega
                exact AllReadyH.nil
              refine AllReadyH.cons (o := _) rfl ?_ ?_
              · intro K hK
                rw [if_pos (wanted_none (by rfl))]
                (go_simp; obtain ⟨W2, hW2⟩ : ∃ W, W = (W1.alloc (.cells #[.int .i64 M2[kk].f, .int .i64 M2[kk].t, .slice xa M2[kk].bs.length xc] 30)) := ⟨_, rfl⟩; rw [← hW2]; have ZS2 : Hid (w2.heap.size + 1 ≤ W1.heap.size) := Nat.le_trans (Nat.le_of_eq HUS.out.symm) F1.out.size; have F2 : Hid (Below (w2.heap.size + 1) U.drew W2) := (by rw [hW2]; exact (F1.out.alloc ZS2.out _)); have AL2 : Hid (Below W1.heap.size W1 W2) := (by rw [hW2]; exact below_alloc _ _); have NB2 : Hid (W2.heap[W1.heap.size]? = some (.cells #[.int .i64 M2[kk].f, .int .i64 M2[kk].t, .slice xa M2[kk].bs.length xc] 30)) := (by rw [hW2]; exact alloc_block _ _ _ _); have O2 : Hid (W2.ownsRow (w2.heap.size + 1) 30 3 (.slice (some ⟨U.heap.size, 0, none⟩) 0 0) 0 []) := ownsRow_below O1.out AL2.out; have NE2 : Hid (∀ k, (Value.slice (some ⟨U.heap.size, 0, none⟩) 0 0).ownBlock = some k → k ≠ W1.heap.size) := fun k hk e => (by have := (O1.out.lt k hk).2; omega); clear hW2)
                refine hK.out _ _ ?_ (fun hHeld => ?_)
                · (try dsimp only)
                  exact HS19.out _ F2.out
                clear hK K
                (try simp only [Act.put, List.setIfInBounds_toArray, List.set_cons_zero, List.set_cons_succ])
                refine wpAnyH_ready (rs := [4]) (by decide +kernel) (by simp) ?_
                refine AllReadyH.cons (o := _) rfl ?_ AllReadyH.nil
                intro K hK
                rw [if_pos (wanted_none (by rfl))]
                (refine wp_append_at _ _ _ 34 (by rfl) (w2.heap.size + 1) 30 i0 _ 3 40 Try.underlying34 hi hz0 hz1 hz2 rfl (by decide) (.slice (some ⟨U.heap.size, 0, none⟩) 0 0) 0 [] (by rfl) O2.out ⟨g, 0, none⟩ kk c7 (((M2.flatMap Lt.cells).drop 0).take (kk * 3)) (by rfl) (part_len _ _ _ (by rw [cells_len, HL2.out]; omega)) (row_src (HG.out _ F2.out) HR7.out 0 (kk * 3) (by omega)) (part_one HONE.out _ _) (by unfold maxLen; omega) (by omega) (Nat.le_trans (Nat.le_of_eq HUS.out.symm) F2.out.size) ?_; intro v3 W3 hown3 hgrow3 hat3; have O3 : Hid (W3.ownsRow (w2.heap.size + 1) 30 3 v3 kk ((M2.flatMap Lt.cells).take (kk * 3))) := (by have h := hown3; simp only [Nat.zero_add, List.nil_append, List.drop_zero] at h; exact h); obtain ⟨b3, cc3, hv3⟩ : ∃ a c, v3 = .slice a kk c := net_form O3.out; subst hv3; have F3 : Hid (Below (w2.heap.size + 1) U.drew W3) := F2.out.grown hgrow3 (Nat.le_trans (Nat.le_of_eq HUS.out.symm) F2.out.size) (fun k hk => (O2.out.lt k hk).1); have NB3 : Hid (W3.heap[W1.heap.size]? = some (.cells #[.int .i64 M2[kk].f, .int .i64 M2[kk].t, .slice xa M2[kk].bs.length xc] 30)) := (hgrow3.block _ (lt_of_block NB2.out) (fun e => NE2.out _ e.symm rfl)).trans NB2.out; have NE3 : Hid (∀ k, (Value.slice b3 kk cc3).ownBlock = some k → k ≠ W1.heap.size) := fun k hk e => (by rcases hat3 with h | h; exact NE2.out k (h ▸ hk) e; rw [h] at hk; injection hk with hk; have := lt_of_block NB2.out; omega); clear hown3 hgrow3 hat3)
                refine hK.out _ _ ?_ (fun hHeld => ?_)
                · (try dsimp only)
                  exact HS19.out _ F3.out
                clear hK K
                (try simp only [Act.put, List.setIfInBounds_toArray, List.set_cons_zero, List.set_cons_succ])
                refine wpAnyH_ready (rs := [9]) (by decide +kernel) (by simp) ?_
                refine AllReadyH.cons (o := _) rfl ?_ AllReadyH.nil
                intro K hK
                rw [if_pos (wanted_none (by rfl))]
                (refine wp_append_at _ _ _ 34 (by rfl) (w2.heap.size + 1) 30 i0 _ 3 40 Try.underlying34 hi hz0 hz1 hz2 rfl (by decide) (.slice b3 kk cc3) kk ((M2.flatMap Lt.cells).take (kk * 3)) (by rfl) O3.out ⟨g, (kk + 1) * 3, none⟩ (M.length - (kk + 1)) (c7 - (kk + 1)) (((M2.flatMap Lt.cells).drop ((kk + 1) * 3)).take ((M.length - (kk + 1)) * 3)) (by rfl) (part_len _ _ _ (by rw [cells_len, HL2.out]; omega)) (row_src (HG.out _ F3.out) HR7.out _ _ (by omega)) (part_one HONE.out _ _) (by unfold maxLen; omega) (by omega) (Nat.le_trans (Nat.le_of_eq HUS.out.symm) F3.out.size) ?_; intro v4 W4 hown4 hgrow4 hat4; have O4 : Hid (W4.ownsRow (w2.heap.size + 1) 30 3 v4 (M.length - 1) ((M2.eraseIdx kk).flatMap Lt.cells)) := (by have h := hown4; rw [← HL2.out, moved_cells (by rw [HL2.out]; exact hkl), HL2.out] at h; have e : M.length - 1 = kk + (M.length - (kk + 1)) := (by omega); rw [e]; exact h); obtain ⟨b4, cc4, hv4⟩ : ∃ a c, v4 = .slice a (M.length - 1) c := net_form O4.out; subst hv4; have F4 : Hid (Below (w2.heap.size + 1) U.drew W4) := F3.out.grown hgrow4 (Nat.le_trans (Nat.le_of_eq HUS.out.symm) F3.out.size) (fun k hk => (O3.out.lt k hk).1); have NB4 : Hid (W4.heap[W1.heap.size]? = some (.cells #[.int .i64 M2[kk].f, .int .i64 M2[kk].t, .slice xa M2[kk].bs.length xc] 30)) := (hgrow4.block _ (lt_of_block NB3.out) (fun e => NE3.out _ e.symm rfl)).trans NB3.out; have NE4 : Hid (∀ k, (Value.slice b4 (M.length - 1) cc4).ownBlock = some k → k ≠ W1.heap.size) := fun k hk e => (by rcases hat4 with h | h; exact NE3.out k (h ▸ hk) e; rw [h] at hk; injection hk with hk; have := lt_of_block NB3.out; omega); clear hown4 hgrow4 hat4)
                refine hK.out _ _ ?_ (fun hHeld => ?_)
                · (try dsimp only)
                  exact HS19.out _ F4.out
                clear hK K
                (try simp only [Act.put, List.setIfInBounds_toArray, List.set_cons_zero, List.set_cons_succ])
                refine wpAnyH_ready (rs := [12]) (by decide +kernel) (by simp) ?_
                refine AllReadyH.cons (o := _) rfl ?_ AllReadyH.nil
                intro K hK
                rw [if_pos (wanted_none (by rfl))]
                (refine wp_append_at _ _ _ 34 (by rfl) (w2.heap.size + 1) 30 i0 _ 3 40 Try.underlying34 hi hz0 hz1 hz2 rfl (by decide) (.slice b4 (M.length - 1) cc4) (M.length - 1) ((M2.eraseIdx kk).flatMap Lt.cells) (by rfl) O4.out ⟨W1.heap.size, 0, none⟩ 1 1 [.int .i64 M2[kk].f, .int .i64 M2[kk].t, .slice xa M2[kk].bs.length xc] (by rfl) rfl (World.news_of_block NB4.out) (one_lt _ _ _ _ _) (by unfold maxLen; omega) (by omega) (Nat.le_trans (Nat.le_of_eq HUS.out.symm) F4.out.size) ?_; intro v5 W5 hown5 hgrow5 hat5; have O5 : Hid (W5.ownsRow (w2.heap.size + 1) 30 3 v5 (M.length - 1 + 1) ((M2.eraseIdx kk).flatMap Lt.cells ++ [.int .i64 M2[kk].f, .int .i64 M2[kk].t, .slice xa M2[kk].bs.length xc])) := hown5; obtain ⟨b5, cc5, hv5⟩ : ∃ a c, v5 = .slice a (M.length - 1 + 1) c := net_form O5.out; subst hv5; have F5 : Hid (Below (w2.heap.size + 1) U.drew W5) := F4.out.grown hgrow5 (Nat.le_trans (Nat.le_of_eq HUS.out.symm) F4.out.size) (fun k hk => (O4.out.lt k hk).1); have NB5 : Hid (W5.heap[W1.heap.size]? = some (.cells #[.int .i64 M2[kk].f, .int .i64 M2[kk].t, .slice xa M2[kk].bs.length xc] 30)) := (hgrow5.block _ (lt_of_block NB4.out) (fun e => NE4.out _ e.symm rfl)).trans NB4.out; have NE5 : Hid (∀ k, (Value.slice b5 (M.length - 1 + 1) cc5).ownBlock = some k → k ≠ W1.heap.size) := fun k hk e => (by rcases hat5 with h | h; exact NE4.out k (h ▸ hk) e; rw [h] at hk; injection hk with hk; have := lt_of_block NB4.out; omega); clear hown5 hgrow5 hat5)
                refine hK.out _ _ ?_ (fun hHeld => ?_)
                · (try dsimp only)
                  exact HS19.out _ F5.out
                clear hK K
                (try simp only [Act.put, List.setIfInBounds_toArray, List.set_cons_zero, List.set_cons_succ])
                refine Plan.start (plan := [13]) (fuel := 0) (by decide +kernel) (by assumption) ?_
                refine Plan.free (i := 13) (ds := some 7) (v := ?_) rfl rfl rfl ?_ (fun _ _ _ h => h) ?_
                rotate_left
                · (intro w hSw; (try dsimp only at hSw); go_simp; first | done | with_reducible rfl)
                (try simp only [Act.put, List.setIfInBounds_toArray, List.set_cons_zero, List.set_cons_succ])
                refine Plan.stop (fun hHeld => ?_)
                refine wpAnyH_done (by decide +kernel) ?_ _
                have BZ := Lib.hid (BU.out.trans (F5.out.mono (Nat.le_succ _)))
                have hmv := Want.moved T2.out BZ.out (by have := B2.out.size; omega) hkl2 HL2.out HM3.out HM2.out HXF.out O5.out
                rw [Nat.sub_add_cancel hn1] at hmv
                have TZ := Lib.hid hmv
                have BY := Lib.hid (B2.out.trans (BZ.out.mono B2.out.size))
                clear hmv F1 F2 F3 F4 F5
                go_wp2_with fail
                go_roundw
                case rel => exact ⟨k + 1, _, by omega, by rw [hold_len, List.length_map]; omega, by go_num, TZ, BY⟩
                case measure => simp [intOf]; omega
              exact AllReadyH.nil
            refine AllReadyH.cons (o := _) rfl ?_ ?_
            · intro K hK
              rw [if_pos (wanted_none (by rfl))]
              (go_simp; obtain ⟨W1, hW1⟩ : ∃ W, W = (U.alloc (.cells #[.int .i64 M2[kk].f, .int .i64 M2[kk].t, .slice xa M2[kk].bs.length xc] 30)).drew := ⟨_, rfl⟩; rw [← hW1]; have ZS1 : Hid (w2.heap.size + 1 ≤ U.heap.size) := Nat.le_of_eq HUS.out.symm; have F1 : Hid (Below (w2.heap.size + 1) U.drew W1) := (by rw [hW1]; exact (below_src ((Below.refl (w2.heap.size + 1) U).alloc ZS1.out _).drew)); have AL1 : Hid (Below U.heap.size U W1) := (by rw [hW1]; exact below_alloc _ _ |>.drew); have NB1 : Hid (W1.heap[U.heap.size]? = some (.cells #[.int .i64 M2[kk].f, .int .i64 M2[kk].t, .slice xa M2[kk].bs.length xc] 30)) := (by rw [hW1]; exact alloc_block _ _ _ _); clear hW1)
              refine hK.out _ _ ?_ (fun hHeld => ?_)
              · (try dsimp only)
                exact HS19.out _ F1.out
              clear hK K
              (try simp only [Act.put, List.setIfInBounds_toArray, List.set_cons_zero, List.set_cons_succ])
              refine wpAnyH_ready (rs := [0]) (by decide +kernel) (by simp) ?_
              refine AllReadyH.cons (o := _) rfl ?_ AllReadyH.nil
              intro K hK
              rw [if_pos (wanted_none (by rfl))]
              (go_simp; obtain ⟨W2, hW2⟩ : ∃ W, W = (W1.alloc (.cells #[] 30)) := ⟨_, rfl⟩; rw [← hW2]; have ZS2 : Hid (w2.heap.size + 1 ≤ W1.heap.size) := Nat.le_trans (Nat.le_of_eq HUS.out.symm) F1.out.size; have F2 : Hid (Below (w2.heap.size + 1) U.drew W2) := (by rw [hW2]; exact (F1.out.alloc ZS2.out _)); have AL2 : Hid (Below W1.heap.size W1 W2) := (by rw [hW2]; exact below_alloc _ _); have O2 : Hid (W2.ownsRow (w2.heap.size + 1) 30 3 (.slice (some ⟨W1.heap.size, 0, none⟩) 0 0) 0 []) := (by rw [hW2]; exact ownsRow_base ZS2.out (own_emptyL _)); have NE2 : Hid (∀ k, (Value.slice (some ⟨W1.heap.size, 0, none⟩) 0 0).ownBlock = some k → k ≠ U.heap.size) := fun k hk e => (by have := lt_of_block NB1.out; injection hk with hk; have hk : W1.heap.size = k := hk; have : U.heap.size < W1.heap.size := this; omega); have NB2 : Hid (W2.heap[U.heap.size]? = some (.cells #[.int .i64 M2[kk].f, .int .i64 M2[kk].t, .slice xa M2[kk].bs.length xc] 30)) := stays_block AL2.out NB1.out; clear hW2)
              refine hK.out _ _ ?_ (fun hHeld => ?_)
              · (try dsimp only)
                exact HS19.out _ F2.out
              clear hK K
              (try simp only [Act.put, List.setIfInBounds_toArray, List.set_cons_zero, List.set_cons_succ])
              refine wpAnyH_ready (rs := [4]) (by decide +kernel) (by simp) ?_
              refine AllReadyH.cons (o := _) rfl ?_ AllReadyH.nil
              intro K hK
              rw [if_pos (wanted_none (by rfl))]
              (refine wp_append_at _ _ _ 34 (by rfl) (w2.heap.size + 1) 30 i0 _ 3 40 Try.underlying34 hi hz0 hz1 hz2 rfl (by decide) (.slice (some ⟨W1.heap.size, 0, none⟩) 0 0) 0 [] (by rfl) O2.out ⟨g, 0, none⟩ kk c7 (((M2.flatMap Lt.cells).drop 0).take (kk * 3)) (by rfl) (part_len _ _ _ (by rw [cells_len, HL2.out]; omega)) (row_src (HG.out _ F2.out) HR7.out 0 (kk * 3) (by omega)) (part_one HONE.out _ _) (by unfold maxLen; omega) (by omega) (Nat.le_trans (Nat.le_of_eq HUS.out.symm) F2.out.size) ?_; intro v3 W3 hown3 hgrow3 hat3; have O3 : Hid (W3.ownsRow (w2.heap.size + 1) 30 3 v3 kk ((M2.flatMap Lt.cells).take (kk * 3))) := (by have h := hown3; simp only [Nat.zero_add, List.nil_append, List.drop_zero] at h; exact h); obtain ⟨b3, cc3, hv3⟩ : ∃ a c, v3 = .slice a kk c := net_form O3.out; subst hv3; have F3 : Hid (Below (w2.heap.size + 1) U.drew W3) := F2.out.grown hgrow3 (Nat.le_trans (Nat.le_of_eq HUS.out.symm) F2.out.size) (fun k hk => (O2.out.lt k hk).1); have NB3 : Hid (W3.heap[U.heap.size]? = some (.cells #[.int .i64 M2[kk].f, .int .i64 M2[kk].t, .slice xa M2[kk].bs.length xc] 30)) := (hgrow3.block _ (lt_of_block NB2.out) (fun e => NE2.out _ e.symm rfl)).trans NB2.out; have NE3 : Hid (∀ k, (Value.slice b3 kk cc3).ownBlock = some k → k ≠ U.heap.size) := fun k hk e => (by rcases hat3 with h | h; exact NE2.out k (h ▸ hk) e; rw [h] at hk; injection hk with hk; have := lt_of_block NB2.out; omega); clear hown3 hgrow3 hat3)
              refine hK.out _ _ ?_ (fun hHeld => ?_)
              · (try dsimp only)
                exact HS19.out _ F3.out
              clear hK K
              (try simp only [Act.put, List.setIfInBounds_toArray, List.set_cons_zero, List.set_cons_succ])
              refine wpAnyH_ready (rs := [9]) (by decide +kernel) (by simp) ?_
              refine AllReadyH.cons (o := _) rfl ?_ AllReadyH.nil
              intro K hK
              rw [if_pos (wanted_none (by rfl))]
              (refine wp_append_at _ _ _ 34 (by rfl) (w2.heap.size + 1) 30 i0 _ 3 40 Try.underlying34 hi hz0 hz1 hz2 rfl (by decide) (.slice b3 kk cc3) kk ((M2.flatMap Lt.cells).take (kk * 3)) (by rfl) O3.out ⟨g, (kk + 1) * 3, none⟩ (M.length - (kk + 1)) (c7 - (kk + 1)) (((M2.flatMap Lt.cells).drop ((kk + 1) * 3)).take ((M.length - (kk + 1)) * 3)) (by rfl) (part_len _ _ _ (by rw [cells_len, HL2.out]; omega)) (row_src (HG.out _ F3.out) HR7.out _ _ (by omega)) (part_one HONE.out _ _) (by unfold maxLen; omega) (by omega) (Nat.le_trans (Nat.le_of_eq HUS.out.symm) F3.out.size) ?_; intro v4 W4 hown4 hgrow4 hat4; have O4 : Hid (W4.ownsRow (w2.heap.size + 1) 30 3 v4 (M.length - 1) ((M2.eraseIdx kk).flatMap Lt.cells)) := (by have h := hown4; rw [← HL2.out, moved_cells (by rw [HL2.out]; exact hkl), HL2.out] at h; have e : M.length - 1 = kk + (M.length - (kk + 1)) := (by omega); rw [e]; exact h); obtain ⟨b4, cc4, hv4⟩ : ∃ a c, v4 = .slice a (M.length - 1) c := net_form O4.out; subst hv4; have F4 : Hid (Below (w2.heap.size + 1) U.drew W4) := F3.out.grown hgrow4 (Nat.le_trans (Nat.le_of_eq HUS.out.symm) F3.out.size) (fun k hk => (O3.out.lt k hk).1); have NB4 : Hid (W4.heap[U.heap.size]? = some (.cells #[.int .i64 M2[kk].f, .int .i64 M2[kk].t, .slice xa M2[kk].bs.length xc] 30)) := (hgrow4.block _ (lt_of_block NB3.out) (fun e => NE3.out _ e.symm rfl)).trans NB3.out; have NE4 : Hid (∀ k, (Value.slice b4 (M.length - 1) cc4).ownBlock = some k → k ≠ U.heap.size) := fun k hk e => (by rcases hat4 with h | h; exact NE3.out k (h ▸ hk) e; rw [h] at hk; injection hk with hk; have := lt_of_block NB3.out; omega); clear hown4 hgrow4 hat4)
              refine hK.out _ _ ?_ (fun hHeld => ?_)
              · (try dsimp only)
                exact HS19.out _ F4.out
              clear hK K
              (try simp only [Act.put, List.setIfInBounds_toArray, List.set_cons_zero, List.set_cons_succ])
              refine wpAnyH_ready (rs := [12]) (by decide +kernel) (by simp) ?_
              refine AllReadyH.cons (o := _) rfl ?_ AllReadyH.nil
              intro K hK
              rw [if_pos (wanted_none (by rfl))]
              (refine wp_append_at _ _ _ 34 (by rfl) (w2.heap.size + 1) 30 i0 _ 3 40 Try.underlying34 hi hz0 hz1 hz2 rfl (by decide) (.slice b4 (M.length - 1) cc4) (M.length - 1) ((M2.eraseIdx kk).flatMap Lt.cells) (by rfl) O4.out ⟨U.heap.size, 0, none⟩ 1 1 [.int .i64 M2[kk].f, .int .i64 M2[kk].t, .slice xa M2[kk].bs.length xc] (by rfl) rfl (World.news_of_block NB4.out) (one_lt _ _ _ _ _) (by unfold maxLen; omega) (by omega) (Nat.le_trans (Nat.le_of_eq HUS.out.symm) F4.out.size) ?_; intro v5 W5 hown5 hgrow5 hat5; have O5 : Hid (W5.ownsRow (w2.heap.size + 1) 30 3 v5 (M.length - 1 + 1) ((M2.eraseIdx kk).flatMap Lt.cells ++ [.int .i64 M2[kk].f, .int .i64 M2[kk].t, .slice xa M2[kk].bs.length xc])) := hown5; obtain ⟨b5, cc5, hv5⟩ : ∃ a c, v5 = .slice a (M.length - 1 + 1) c := net_form O5.out; subst hv5; have F5 : Hid (Below (w2.heap.size + 1) U.drew W5) := F4.out.grown hgrow5 (Nat.le_trans (Nat.le_of_eq HUS.out.symm) F4.out.size) (fun k hk => (O4.out.lt k hk).1); have NB5 : Hid (W5.heap[U.heap.size]? = some (.cells #[.int .i64 M2[kk].f, .int .i64 M2[kk].t, .slice xa M2[kk].bs.length xc] 30)) := (hgrow5.block _ (lt_of_block NB4.out) (fun e => NE4.out _ e.symm rfl)).trans NB4.out; have NE5 : Hid (∀ k, (Value.slice b5 (M.length - 1 + 1) cc5).ownBlock = some k → k ≠ U.heap.size) := fun k hk e => (by rcases hat5 with h | h; exact NE4.out k (h ▸ hk) e; rw [h] at hk; injection hk with hk; have := lt_of_block NB4.out; omega); clear hown5 hgrow5 hat5)
              refine hK.out _ _ ?_ (fun hHeld => ?_)
              · (try dsimp only)
                exact HS19.out _ F5.out
              clear hK K
              (try simp only [Act.put, List.setIfInBounds_toArray, List.set_cons_zero, List.set_cons_succ])
              refine Plan.start (plan := [13]) (fuel := 0) (by decide +kernel) (by assumption) ?_
              refine Plan.free (i := 13) (ds := some 7) (v := ?_) rfl rfl rfl ?_ (fun _ _ _ h => h) ?_
              rotate_left
              · (intro w hSw; (try dsimp only at hSw); go_simp; first | done | with_reducible rfl)
              (try simp only [Act.put, List.setIfInBounds_toArray, List.set_cons_zero, List.set_cons_succ])
              refine Plan.stop (fun hHeld => ?_)
              refine wpAnyH_done (by decide +kernel) ?_ _
              have BZ := Lib.hid (BU.out.trans (F5.out.mono (Nat.le_succ _)))
              have hmv := Want.moved T2.out BZ.out (by have := B2.out.size; omega) hkl2 HL2.out HM3.out HM2.out HXF.out O5.out
              rw [Nat.sub_add_cancel hn1] at hmv
              have TZ := Lib.hid hmv
              have BY := Lib.hid (B2.out.trans (BZ.out.mono B2.out.size))
              clear hmv F1 F2 F3 F4 F5
              go_wp2_with fail
              go_roundw
              case rel => exact ⟨k + 1, _, by omega, by rw [hold_len, List.length_map]; omega, by go_num, TZ, BY⟩
              case measure => simp [intOf]; omega
            exact AllReadyH.nil
        · have TR0 := TR
          clear r1 r2 r4 TR hi hz0 hz1 hz2
          have hcs : ¬ (k < hs.length) ∨ (k < hs.length ∧ M.length = 0) := by omega
          clear hlt
          rcases hcs with hcs | ⟨hcs, hcm⟩
          all_goals
            try have hcm' : ¬ ((0 : Int) < M.length) := by omega
            try have hcs' : ¬ ((k : Int) < hs.length) := by omega
            try have hcs' : (k : Int) < hs.length := by omega
            try clear hcm
            go_wp2_with fail
            go_loopw [12] (fun i wr => ∃ k : Nat, k ≤ M.length ∧ i = .int .i64 k ∧ Hid (Want w.heap.size w.heap.size wr (.slice a7 M.length c7) (M.map Lt.says) ((M.map Lt.says).drop k)) ∧ Hid (Below w.heap.size w wr)) (fun i _ => M.length - (intOf i).toNat)
            case atStart => exact ⟨0, by omega, rfl, TR0, BR⟩
            case round =>
              clear TR0 BR
              obtain ⟨i, hi3, rfl, TR, BR⟩ := hrel
              by_cases hlt : i < M.length
              · try (exfalso; omega)
                all_goals
                  have hz3 : (i : Int) < M.length := by omega
                  have hlm : i < (M.map Lt.says).length := by rw [List.length_map]; exact hlt
                  obtain ⟨xf, xt, xs, hx⟩ : ∃ (xf xt : Int) (xs : List UInt8), (M.map Lt.says)[i] = (xf, xt, xs) := ⟨_, _, _, rfl⟩
                  have hdrop : (M.map Lt.says).drop i = (xf, xt, xs) :: (M.map Lt.says).drop (i + 1) := by rw [← hx]; exact List.drop_eq_getElem_cons hlm
                  obtain ⟨M3, y1, y2, y3, y4⟩ := TR.out
                  rw [hdrop] at y4
                  obtain ⟨tI, tL, tR⟩ := take_first ((M.map Lt.says).drop (i + 1)) (xf, xt, xs)
                  have Y4 := Lib.hid y4
                  have HX := Lib.hid hx
                  clear y1 y2 y3 y4 hx hdrop
                  go_wp2_with fail
                  refine (take_s w.heap.size w.heap.size _ 3 _ false false false 0 wr Y4.out).mono ?_
                  rw [tI, tL, tR]
                  rintro e w2 ⟨xv, rfl, ⟨bv, rfl, hxb⟩, hS, hO⟩
                  obtain ⟨xa, xc, rfl⟩ := hxb.form
                  have ob0 := alloc_block w2 #[.int .i64 xf, .int .i64 xt, .slice xa xs.length xc] 30 (0, 0)
                  have bu0 := below_alloc w2 (.cells #[.int .i64 xf, .int .i64 xt, .slice xa xs.length xc] 30)
                  have T3 := Lib.hid ((TR.out.act hS hO).below bu0)
                  have B3 := Lib.hid (onward bu0 (BR.out.trans hO.1))
                  have XB := Lib.hid (hxb.below bu0)
                  clear hS hO hxb tI tL tR Y4
                  go_wp2_with fail
                  generalize w2.alloc (.cells #[.int .i64 xf, .int .i64 xt, .slice xa xs.length xc] 30) = U at *
                  obtain ⟨M4, m1, m2, m3, -⟩ := T3.out
                  have hl4 : M4.length = M.length := by have := congrArg List.length m3; simpa using this
                  obtain ⟨g, cap, cur, hv, hg, h3, h4, h5, h6, h7⟩ := own_open m1 (by omega)
                  injection hv with hv1 hv2' hv3
                  subst hv1 hv3
                  have hl4' : i < M4.length := by omega
                  have hsay : M4[i].says = (xf, xt, xs) := by
                    have : (M4.map Lt.says)[i]? = some M4[i].says := by simp [hl4']
                    rw [m3, List.getElem?_eq_getElem hlm, HX.out] at this
                    injection this with this
                    exact this.symm
                  have HSAY := Lib.hid hsay
                  have M1 := Lib.hid m1
                  have M2' := Lib.hid m2
                  have OB := Lib.hid ob0
                  have c63 : c7 ≤ 9223372036854775807 := by unfold maxLen at h5; omega
                  have hci : ¬ c7 = i := by omega
                  have hi7 : i ≤ c7 := by omega
                  have hi8 : i + 1 ≤ c7 := by omega
                  have hi9 : (i : Int) + 1 ≤ c7 := by omega
                  have hi10 : (0 : Int) ≤ (i : Int) + 1 := by omega
                  have hi11 : (i : Int) ≤ (i : Int) + 1 := by omega
                  have hi12 : IntKind.i64.wrap ((i : Int) + 1) = (i : Int) + 1 := IntWalk.i64_in _ (by omega)
                  obtain ⟨-, x0, x1, x2⟩ := three_cells ob0
                  have HS24 : Hid (∀ W, Below U.heap.size U W → W.cell? ⟨w2.heap.size, 0, none⟩ = some (.int .i64 xf) ∧ W.cell? ⟨w2.heap.size, 1, none⟩ = some (.int .i64 xt) ∧ W.cell? ⟨w2.heap.size, 2, none⟩ = some (.slice xa xs.length xc)) := fun W hb => ⟨stays hb x0, stays hb x1, stays hb x2⟩
                  have ba24 : Below U.heap.size U (U.alloc (.cells #[.int .i64 xf, .int .i64 xt, .slice xa xs.length xc] 30)).drew := (below_alloc _ _).drew
                  have BA24 := Lib.hid ba24
                  have NB24 : Hid ((U.alloc (.cells #[.int .i64 xf, .int .i64 xt, .slice xa xs.length xc] 30)).drew.heap[U.heap.size]? = some (.cells #[.int .i64 xf, .int .i64 xt, .slice xa xs.length xc] 30 (0, 0))) := alloc_block U _ _ _
                  clear m1 m2 m3 h3 h4 h5 h6 h7 hl4 hv2' hsay ob0 bu0 x0 x1 x2 ba24
                  refine wp_region_held_drew (S := (fun W => W.cell? ⟨w2.heap.size, 0, none⟩ = some (.int .i64 xf) ∧ W.cell? ⟨w2.heap.size, 1, none⟩ = some (.int .i64 xt) ∧ W.cell? ⟨w2.heap.size, 2, none⟩ = some (.slice xa xs.length xc))) (by kernel_rfl) ?_ (fun hHeld => ?_)
                  · (try dsimp only)
                    exact HS24.out _ (Below.refl _ _).drew
                  refine Plan.start (plan := [0, 1, 2, 3, 5, 6, 7, 8, 9]) (fuel := 4) (by decide +kernel) (by assumption) ?_
                  refine Plan.free (i := 0) (ds := some 104) (v := ?_) rfl rfl rfl ?_ (fun _ _ _ h => h) ?_
                  rotate_left
                  · (intro w hSw; (try dsimp only at hSw); go_simp; first | done | with_reducible rfl)
                  (try simp only [Act.put, List.setIfInBounds_toArray, List.set_cons_zero, List.set_cons_succ])
                  refine Plan.free (i := 1) (ds := some 105) (v := ?_) rfl rfl rfl ?_ (fun _ _ _ h => h) ?_
                  rotate_left
                  · (intro w hSw; (try dsimp only at hSw); go_simp; first | done | with_reducible rfl)
                  (try simp only [Act.put, List.setIfInBounds_toArray, List.set_cons_zero, List.set_cons_succ])
                  refine Plan.free (i := 2) (ds := some 106) (v := ?_) rfl rfl rfl ?_ (fun _ _ _ h => h) ?_
                  rotate_left
                  · (intro w hSw; (try dsimp only at hSw); go_simp; first | done | with_reducible rfl)
                  (try simp only [Act.put, List.setIfInBounds_toArray, List.set_cons_zero, List.set_cons_succ])
                  refine Plan.on (i := 3) (ds := some 107) (j := 2) (d := 106) (v := ?_) rfl rfl rfl rfl rfl rfl ?_ (fun _ _ _ h => h) ?_
                  rotate_left
                  · (intro w hSw; (try dsimp only at hSw); go_simp; first | done | with_reducible rfl)
                  (try simp only [Act.put, List.setIfInBounds_toArray, List.set_cons_zero, List.set_cons_succ])
                  refine Plan.on (i := 5) (ds := some 109) (j := 2) (d := 106) (v := ?_) rfl rfl rfl rfl rfl rfl ?_ (fun _ _ _ h => h) ?_
                  rotate_left
                  · (intro w hSw; (try dsimp only at hSw); go_simp; first | done | with_reducible rfl)
                  (try simp only [Act.put, List.setIfInBounds_toArray, List.set_cons_zero, List.set_cons_succ])
                  refine Plan.on (i := 6) (ds := some 110) (j := 2) (d := 106) (v := ?_) rfl rfl rfl rfl rfl rfl ?_ (fun _ _ _ h => h) ?_
                  rotate_left
                  · (intro w hSw; (try dsimp only at hSw); go_simp; first | done | with_reducible rfl)
                  (try simp only [Act.put, List.setIfInBounds_toArray, List.set_cons_zero, List.set_cons_succ])
                  refine Plan.on (i := 7) (ds := some 111) (j := 2) (d := 106) (v := ?_) rfl rfl rfl rfl rfl rfl ?_ (fun _ _ _ h => h) ?_
                  rotate_left
                  · (intro w hSw; (try dsimp only at hSw); go_simp; first | done | with_reducible rfl)
                  (try simp only [Act.put, List.setIfInBounds_toArray, List.set_cons_zero, List.set_cons_succ])
                  refine Plan.on (i := 8) (ds := some 112) (j := 2) (d := 106) (v := ?_) rfl rfl rfl rfl rfl rfl ?_ (fun _ _ _ h => h) ?_
                  rotate_left
                  · (intro w hSw; (try dsimp only at hSw); go_simp; first | done | with_reducible rfl)
                  (try simp only [Act.put, List.setIfInBounds_toArray, List.set_cons_zero, List.set_cons_succ])
                  refine Plan.on (i := 9) (ds := some 113) (j := 2) (d := 106) (v := ?_) rfl rfl rfl rfl rfl rfl ?_ (fun _ _ _ h => h) ?_
                  rotate_left
                  · (intro w hSw; (try dsimp only at hSw); go_simp; first | done | with_reducible rfl)
                  (try simp only [Act.put, List.setIfInBounds_toArray, List.set_cons_zero, List.set_cons_succ])
                  refine Plan.stop (fun hHeld => ?_)
                  refine wpAnyH_ready (rs := [4]) (by decide +kernel) (by simp) ?_
                  refine AllReadyH.cons (o := _) rfl ?_ AllReadyH.nil
                  intro K hK
                  rw [if_pos (wanted_on (j := 2) (d := 106) (by rfl) (by rfl) (by rfl) (by rfl))]
                  (go_simp)
                  refine hK.out _ _ ?_ (fun hHeld => ?_)
                  · (try dsimp only)
                    exact HS24.out _ BA24.out
                  clear hK K
                  (try simp only [Act.put, List.setIfInBounds_toArray, List.set_cons_zero, List.set_cons_succ])
                  refine wpAnyH_ready (rs := [10]) (by decide +kernel) (by simp) ?_
                  refine AllReadyH.cons (o := _) rfl ?_ AllReadyH.nil
                  intro K hK
                  rw [if_pos (wanted_on (j := 2) (d := 106) (by rfl) (by rfl) (by rfl) (by rfl))]
                  (have hA24 := one_in (x := (xf, xt, xs)) NB24.out (XB.out.below BA24.out); have hB24 := sub_in (c := c7 - i) (ownsRow_below M1.out BA24.out) (M2'.out.step (.of_below BA24.out)) i hl4' (by omega) (by unfold maxLen; omega); rw [HSAY.out] at hB24; go_simp; go_at_call 16; ((with_reducible refine (same_any w.heap.size _ _ [(xf, xt, xs)] [(xf, xt, xs)] _ hA24 hB24).mono ?_); rintro e w8 ⟨rfl, n8, hw8⟩; have B8 : Hid (Below U.heap.size U w8) := (by rw [hw8]; exact World.below_drewN BA24.out n8); rw [sameB_self]; clear hA24 hB24 hw8))
                  refine hK.out _ _ ?_ (fun hHeld => ?_)
                  · (try dsimp only)
                    exact HS24.out _ B8.out
                  clear hK K
                  (try simp only [Act.put, List.setIfInBounds_toArray, List.set_cons_zero, List.set_cons_succ])
                  refine Plan.start (plan := [11, 12]) (fuel := 0) (by decide +kernel) (by assumption) ?_
                  refine Plan.on (i := 11) (ds := some 115) (j := 2) (d := 106) (v := ?_) rfl rfl rfl rfl rfl rfl ?_ (fun _ _ _ h => h) ?_
                  rotate_left
                  · (intro w hSw; (try dsimp only at hSw); go_simp; first | done | with_reducible rfl)
                  (try simp only [Act.put, List.setIfInBounds_toArray, List.set_cons_zero, List.set_cons_succ])
                  refine Plan.free (i := 12) (ds := some 116) (v := ?_) rfl rfl rfl ?_ (fun _ _ _ h => h) ?_
                  rotate_left
                  · (intro w hSw; (try dsimp only at hSw); go_simp; first | done | with_reducible rfl)
                  (try simp only [Act.put, List.setIfInBounds_toArray, List.set_cons_zero, List.set_cons_succ])
                  refine Plan.stop (fun hHeld => ?_)
                  refine wpAnyH_done (by decide +kernel) ?_ _
                  have T9 := Lib.hid (T3.out.below B8.out)
                  have B9 := Lib.hid (B3.out.trans (B8.out.mono B3.out.size))
                  clear B8
                  go_wp2_with fail
                  go_roundw
                  case rel => exact ⟨i + 1, by omega, by go_num, T9, B9⟩
                  case measure => simp [intOf]; omega
              · obtain rfl : i = M.length := by omega
                clear hlt
                obtain ⟨M3, y1, y2, y3, y4⟩ := TR.out
                rw [List.drop_of_length_le (by rw [List.length_map]; exact Nat.le_refl _)] at y4
                have Y4 := Lib.hid y4
                clear y1 y2 y3 y4
                go_wp2_with fail
                refine (letters_s w.heap.size w.heap.size _ 3 [] false false false _ Y4.out).mono ?_
                rintro e w5 ⟨v5, rfl, ⟨L5, z1, z2, z3, -⟩, hb5⟩
                obtain rfl : L5 = [] := by cases L5 with | nil => rfl | cons x xs => simp at z3
                obtain ⟨a5, c5, rfl⟩ := net_form z1
                have B5 := Lib.hid (onward hb5 BR.out)
                clear z1 z2 z3 hb5
                go_wp2_with fail
                refine (goes_any _).mono ?_
                rintro e w6 ⟨rfl, hb6⟩
                have B6 := Lib.hid (onward hb6 B5.out)
                clear hb6
                go_wp2_with fail
                go_ret
                exact ⟨rfl, B6.out⟩
end Go.Proofs.Ytgkefciojoffgaa
