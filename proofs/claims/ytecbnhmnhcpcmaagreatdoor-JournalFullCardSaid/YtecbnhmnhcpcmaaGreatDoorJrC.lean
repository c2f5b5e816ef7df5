/- The walk of the law JournalFull. (Printed by gen_jrc.py.) -/
import Derived.Test.YtecbnhmnhcpcmaaGreatDoorJrB
import Derived.Test.YtecbnhmnhcpcmaaGreatDoorJnY
namespace Go.Proofs.YtecbnhmnhcpcmaaGreatDoor
open Go.RowKit Go.WideMaps Go.Maps
set_option linter.unusedVariables false
set_option linter.unusedSimpArgs false
set_option maxRecDepth 100000
theorem pairsR_len {D : DM} (h : IsMap D) : (pairsR D [] []).length = size D := by
  obtain ⟨es, rfl⟩ := h
  unfold pairsR keysR
  rw [List.length_map, List.length_mergeSort, List.filter_eq_self.2 (fun k _ => by cases k <;> rfl)]
  show (es.map _).length = es.length
  rw [List.length_map]
theorem nil_bytes (w : World) : BytesAt 0 w (.slice none 0 0) [] := ⟨none, 0, rfl, fun _ => rfl, fun i hi => by simp at hi⟩
/-- a posting's marks, all that a store keeps -/
structure JnR (D : DM) (k : Nat) : Prop where
  isM : IsMap D
  wf : WFJ D
  last : lastN D ≤ k
set_option maxHeartbeats 1000000 in
theorem full_any (lv : Value) (L : List Ac) (r8 : Nat) (w : World) (hE : EnvA w) (hl : RowsIn w lv 3 (L.map Ac.cells)) (ho : ∀ a ∈ L, a.ok w) (hr : r8 < 256) :
    Calls Tryz.prog 5 #[lv, .int .u8 r8] w fun e w' => e = .returned (.bool true) ∧ Below w.heap.size w w' := by
  obtain ⟨a, c, rfl⟩ := ac_form hl
  have HE := Lib.hid hE
  have HL := Lib.hid hl
  have HO := Lib.hid ho
  have HR8 := Lib.hid hr
  have HT : Int.tmod (wrap64 (r8 : Int)) 200 = ((r8 % 200 : Nat) : Int) := by
    rw [show wrap64 (r8 : Int) = r8 by unfold wrap64; omega]
    rfl
  generalize hrr : r8 % 200 = r at *
  have HRR : Hid (r < 200) := by show _ < _; omega
  clear hl ho hE hr hrr
  go_enter Tryz.func5, Tryz.ntmps5
  go_wp2_with fail
  refine (great_any _ L w HL.out HO.out).mono ?_
  rintro e w0 ⟨b, rfl, hb, rfl⟩
  cases b with
  | true =>
    clear hb
    go_wp2_with fail
    go_ret
    exact ⟨rfl, Below.refl _ _⟩
  | false =>
  obtain ⟨h60, hsm⟩ := hb rfl
  have HS := Lib.hid hsm
  have H60 := Lib.hid h60
  clear hb hsm h60
  go_wp2_with fail
  refine (new_any (r : Int) w).mono ?_
  rintro e w1 ⟨p, b1, b2, rfl, hm, hb, hp, hb1, hb2⟩
  have M1 := Lib.hid hm
  have B1 := Lib.hid hb
  have HP : Hid (w.heap.size ≤ p) := hp
  have G1 : Hid (w.heap.size ≤ b1) := hb1
  clear hm hb hp hb1 hb2
  go_wp2_with fail
  go_loopw [6] (fun iv wr => ∃ (k n b1 b2 : Nat) (D : DM), k ≤ L.length ∧ n ≤ 42 * k ∧ iv = .int .i64 k ∧ Hid (JnR D k) ∧ Hid (MemS wr p b1 b2 r n D D) ∧ Hid (w.heap.size ≤ b1) ∧ Hid (Below w.heap.size w wr)) (fun iv _ => L.length - (intOf iv).toNat)
  case atStart => exact ⟨0, 0, b1, b2, .map [], by omega, by omega, rfl, ⟨isMap_empty, wf_empty, by decide⟩, M1.out, G1.out, B1.out⟩
  case round =>
    clear M1 G1
    obtain ⟨k, n, b1, b2, D, hk, hn, rfl, HJ, MR, GR, BR⟩ := hrel
    by_cases hlt : k < L.length
    · obtain ⟨g, o, rfl, y0, y1, y2⟩ := ac_cells HL.out k hlt
      have hz : (k : Int) < L.length := by omega
      obtain ⟨r1, ⟨r2, r3⟩, r4, r5⟩ := HO.out L[k] (List.getElem_mem hlt)
      obtain ⟨s1, s2⟩ := HS.out L[k] (List.getElem_mem hlt)
      generalize L[k] = q at *
      obtain ⟨t, ten, pv, ps⟩ := q
      dsimp only at y0 y1 y2 r1 r2 r3 r4 r5 s1 s2
      obtain ⟨tn, rfl⟩ : ∃ tn : Nat, ten = tn := ⟨ten.toNat, by omega⟩
      obtain ⟨pa, pc, rfl⟩ := pt_form r1
      have R1 := Lib.hid r1
      have R5 := Lib.hid r5
      have S1 := Lib.hid s1
      have S2 := Lib.hid s2
      have HTN : Hid (tn < 4294967296) := by show _ < _; omega
      have HNN : Hid (n ≤ 42 * k ∧ k ≤ 60) := by have := H60.out; exact ⟨by omega, by omega⟩
      have KX : Hid (∀ W, Below w.heap.size w W → W.cell? ⟨g, o + k * 3, none⟩ = some (.int .i64 t) ∧ W.cell? ⟨g, o + k * 3 + 1, none⟩ = some (.int .u32 tn) ∧ W.cell? ⟨g, o + k * 3 + 2, none⟩ = some (.slice pa ps.length pc)) := by
        have q0 := y0; have q1 := y1; have q2 := y2
        exact fun W hb => ⟨stays hb q0, stays hb q1, stays hb q2⟩
      clear r1 r5 s2 r4 y0 y1 y2
      go_wp2_with fail
      refine (range_any wr MR.out (by have := HNN.out; omega) _ _ [] [] (nil_bytes _) (nil_bytes _)).mono ?_
      rintro e w2 ⟨v2, rfl, hp2, hb2⟩
      obtain ⟨va, vc, e2⟩ := hp2.slice
      rw [pairsR_len HJ.out.isM] at e2
      subst e2
      have M2 := Lib.hid (MR.out.below hb2)
      have B2 := Lib.hid (onward hb2 BR.out)
      have PX : Hid (∀ W, Below w2.heap.size w2 W → Calls Tryz.prog 10 #[memI p, .int .i64 t, .int .u32 tn, .slice pa ps.length pc] W (PostEnd p b1 b2 (n + ps.length + 2) r D (postF r D t tn ps) W)) := fun W hb => post_any t tn _ ps W (HE.out.below (onward hb B2.out)) (M2.out.below hb) HJ.out.wf (by have := HNN.out; omega) (by have := HJ.out.last; have := HNN.out; omega) (R1.out.below (onward hb B2.out)) S1.out HTN.out (fun q hq => ⟨S2.out q hq, R5.out q hq⟩)
      have HC := Lib.hid (postF_cases (room := (r : Int)) (MR.out.now.tidy keyStr) t tn ps)
      generalize postF r D t tn ps = rr at *
      obtain ⟨xa, xe, Dx⟩ := rr
      clear hp2 hb2
      go_upto_region 8 with fail
      refine wp_region_held_drew (S := (fun W => W.cell? ⟨g, o + k * 3, none⟩ = some (.int .i64 t) ∧ W.cell? ⟨g, o + k * 3 + 1, none⟩ = some (.int .u32 tn) ∧ W.cell? ⟨g, o + k * 3 + 2, none⟩ = some (.slice pa ps.length pc))) (by kernel_rfl) ?_ (fun hHeld => ?_)
      · (try dsimp only)
        exact KX.out _ (B2.out.drew)
      refine Plan.start (plan := [0, 1, 2, 3, 4, 5, 6, 7, 8, 9, 10, 11, 12, 13, 14, 15, 16]) (fuel := 6) (by decide +kernel) (by assumption) ?_
      refine Plan.free (i := 0) (ds := some 31) (v := ?_) rfl rfl rfl ?_ (fun _ _ _ h => h) ?_
      rotate_left
      · (intro w hSw; (try dsimp only at hSw); go_simp; first | done | with_reducible rfl)
      (try simp only [Act.put, List.setIfInBounds_toArray, List.set_cons_zero, List.set_cons_succ])
      refine Plan.free (i := 1) (ds := some 32) (v := ?_) rfl rfl rfl ?_ (fun _ _ _ h => h) ?_
      rotate_left
      · (intro w hSw; (try dsimp only at hSw); go_simp; first | done | with_reducible rfl)
      (try simp only [Act.put, List.setIfInBounds_toArray, List.set_cons_zero, List.set_cons_succ])
      refine Plan.free (i := 2) (ds := some 33) (v := ?_) rfl rfl rfl ?_ (fun _ _ _ h => h) ?_
      rotate_left
      · (intro w hSw; (try dsimp only at hSw); go_simp; first | done | with_reducible rfl)
      (try simp only [Act.put, List.setIfInBounds_toArray, List.set_cons_zero, List.set_cons_succ])
      refine Plan.free (i := 3) (ds := some 34) (v := ?_) rfl rfl rfl ?_ (fun _ _ _ h => h) ?_
      rotate_left
      · (intro w hSw; (try dsimp only at hSw); go_simp; first | done | with_reducible rfl)
      (try simp only [Act.put, List.setIfInBounds_toArray, List.set_cons_zero, List.set_cons_succ])
      refine Plan.free (i := 4) (ds := some 35) (v := ?_) rfl rfl rfl ?_ (fun _ _ _ h => h) ?_
      rotate_left
      · (intro w hSw; (try dsimp only at hSw); go_simp; first | done | with_reducible rfl)
      (try simp only [Act.put, List.setIfInBounds_toArray, List.set_cons_zero, List.set_cons_succ])
      refine Plan.free (i := 5) (ds := some 36) (v := ?_) rfl rfl rfl ?_ (fun _ _ _ h => h) ?_
      rotate_left
      · (intro w hSw; (try dsimp only at hSw); go_simp; first | done | with_reducible rfl)
      (try simp only [Act.put, List.setIfInBounds_toArray, List.set_cons_zero, List.set_cons_succ])
      refine Plan.free (i := 6) (ds := some 37) (v := ?_) rfl rfl rfl ?_ (fun _ _ _ h => h) ?_
      rotate_left
      · (intro w hSw; (try dsimp only at hSw); go_simp; first | done | with_reducible rfl)
      (try simp only [Act.put, List.setIfInBounds_toArray, List.set_cons_zero, List.set_cons_succ])
      refine Plan.free (i := 7) (ds := some 38) (v := ?_) rfl rfl rfl ?_ (fun _ _ _ h => h) ?_
      rotate_left
      · (intro w hSw; (try dsimp only at hSw); go_simp; first | done | with_reducible rfl)
      (try simp only [Act.put, List.setIfInBounds_toArray, List.set_cons_zero, List.set_cons_succ])
      refine Plan.free (i := 8) (ds := some 39) (v := ?_) rfl rfl rfl ?_ (fun _ _ _ h => h) ?_
      rotate_left
      · (intro w hSw; (try dsimp only at hSw); go_simp; first | done | with_reducible rfl)
      (try simp only [Act.put, List.setIfInBounds_toArray, List.set_cons_zero, List.set_cons_succ])
      refine Plan.free (i := 9) (ds := some 40) (v := ?_) rfl rfl rfl ?_ (fun _ _ _ h => h) ?_
      rotate_left
      · (intro w hSw; (try dsimp only at hSw); go_simp; first | done | with_reducible rfl)
      (try simp only [Act.put, List.setIfInBounds_toArray, List.set_cons_zero, List.set_cons_succ])
      refine Plan.free (i := 10) (ds := some 41) (v := ?_) rfl rfl rfl ?_ (fun _ _ _ h => h) ?_
      rotate_left
      · (intro w hSw; (try dsimp only at hSw); go_simp; first | done | with_reducible rfl)
      (try simp only [Act.put, List.setIfInBounds_toArray, List.set_cons_zero, List.set_cons_succ])
      refine Plan.free (i := 11) (ds := some 42) (v := ?_) rfl rfl rfl ?_ (fun _ _ _ h => h) ?_
      rotate_left
      · (intro w hSw; (try dsimp only at hSw); go_simp; first | done | with_reducible rfl)
      (try simp only [Act.put, List.setIfInBounds_toArray, List.set_cons_zero, List.set_cons_succ])
      refine Plan.free (i := 12) (ds := some 43) (v := ?_) rfl rfl rfl ?_ (fun _ _ _ h => h) ?_
      rotate_left
      · (intro w hSw; (try dsimp only at hSw); go_simp; first | done | with_reducible rfl)
      (try simp only [Act.put, List.setIfInBounds_toArray, List.set_cons_zero, List.set_cons_succ])
      refine Plan.free (i := 13) (ds := some 44) (v := ?_) rfl rfl rfl ?_ (fun _ _ _ h => h) ?_
      rotate_left
      · (intro w hSw; (try dsimp only at hSw); go_simp; first | done | with_reducible rfl)
      (try simp only [Act.put, List.setIfInBounds_toArray, List.set_cons_zero, List.set_cons_succ])
      refine Plan.free (i := 14) (ds := some 45) (v := ?_) rfl rfl rfl ?_ (fun _ _ _ h => h) ?_
      rotate_left
      · (intro w hSw; (try dsimp only at hSw); go_simp; first | done | with_reducible rfl)
      (try simp only [Act.put, List.setIfInBounds_toArray, List.set_cons_zero, List.set_cons_succ])
      refine Plan.free (i := 15) (ds := some 46) (v := ?_) rfl rfl rfl ?_ (fun _ _ _ h => h) ?_
      rotate_left
      · (intro w hSw; (try dsimp only at hSw); go_simp; first | done | with_reducible rfl)
      (try simp only [Act.put, List.setIfInBounds_toArray, List.set_cons_zero, List.set_cons_succ])
      refine Plan.free (i := 16) (ds := some 47) (v := ?_) rfl rfl rfl ?_ (fun _ _ _ h => h) ?_
      rotate_left
      · (intro w hSw; (try dsimp only at hSw); go_simp; first | done | with_reducible rfl)
      (try simp only [Act.put, List.setIfInBounds_toArray, List.set_cons_zero, List.set_cons_succ])
      refine Plan.stop (fun hHeld => ?_)
      refine wpAnyH_ready (rs := [17]) (by decide +kernel) (by simp) ?_
      refine AllReadyH.cons (o := _) rfl ?_ AllReadyH.nil
      intro K hK
      rw [if_pos (wanted_none (by rfl))]
      (go_simp; go_at_call 10; refine (PX.out _ (Below.refl _ _).drew).mono ?_; rintro e w3 ⟨rfl, hm, ht⟩; have M3 := Lib.hid hm; have B3 : Hid (Below w.heap.size w w3) := B2.out.trans (((Turned.of_below (Below.refl _ _).drew M2.out.now.isM).trans ht).below B2.out.size GR.out); clear hm ht)
      refine hK.out _ _ ?_ (fun hHeld => ?_)
      · (try dsimp only)
        exact KX.out _ B3.out
      clear hK K
      (try simp only [Act.put, List.setIfInBounds_toArray, List.set_cons_zero, List.set_cons_succ])
      refine Plan.start (plan := [18, 19, 20, 21, 22]) (fuel := 0) (by decide +kernel) (by assumption) ?_
      refine Plan.free (i := 18) (ds := some 30) (v := ?_) rfl rfl rfl ?_ (fun _ _ _ h => h) ?_
      rotate_left
      · (intro w hSw; (try dsimp only at hSw); go_simp; first | done | with_reducible rfl)
      (try simp only [Act.put, List.setIfInBounds_toArray, List.set_cons_zero, List.set_cons_succ])
      refine Plan.free (i := 19) (ds := some 49) (v := ?_) rfl rfl rfl ?_ (fun _ _ _ h => h) ?_
      rotate_left
      · (intro w hSw; (try dsimp only at hSw); go_simp; first | done | with_reducible rfl)
      (try simp only [Act.put, List.setIfInBounds_toArray, List.set_cons_zero, List.set_cons_succ])
      refine Plan.free (i := 20) (ds := some 50) (v := ?_) rfl rfl rfl ?_ (fun _ _ _ h => h) ?_
      rotate_left
      · (intro w hSw; (try dsimp only at hSw); go_simp; first | done | with_reducible rfl)
      (try simp only [Act.put, List.setIfInBounds_toArray, List.set_cons_zero, List.set_cons_succ])
      refine Plan.free (i := 21) (ds := some 9) (v := ?_) rfl rfl rfl ?_ (fun _ _ _ h => h) ?_
      rotate_left
      · (intro w hSw; (try dsimp only at hSw); go_simp; first | done | with_reducible rfl)
      (try simp only [Act.put, List.setIfInBounds_toArray, List.set_cons_zero, List.set_cons_succ])
      refine Plan.free (i := 22) (ds := some 10) (v := ?_) rfl rfl rfl ?_ (fun _ _ _ h => h) ?_
      rotate_left
      · (intro w hSw; (try dsimp only at hSw); go_simp; first | done | with_reducible rfl)
      (try simp only [Act.put, List.setIfInBounds_toArray, List.set_cons_zero, List.set_cons_succ])
      refine Plan.stop (fun hHeld => ?_)
      refine wpAnyH_done (by decide +kernel) ?_ _
      clear hHeld PX
      rcases HC.out with ⟨hne, hfull⟩ | ⟨hpo, g1, g2, g3, g4, g5⟩
      · have HF := Lib.hid hfull
        replace hne : xe ≠ 0 := hne
        clear HC hfull
        go_wp2_with fail
        refine (abort_any w3 M3.out).mono ?_
        rintro e w4 ⟨rfl, hm, hg⟩
        have M4 := Lib.hid hm
        have B4 : Hid (Below w.heap.size w w4) := B3.out.grown hg B3.out.size (fun j hj => by cases hj; exact HP.out)
        have hg4 : w.heap.size ≤ w3.heap.size := B3.out.size
        have G4 := Lib.hid hg4
        clear hm hg hg4 M3
        go_wp2_with fail
        refine (range_any w4 M4.out (by have := HNN.out; have := S1.out; omega) _ _ [] [] (nil_bytes _) (nil_bytes _)).mono ?_
        rintro e w5 ⟨v5, rfl, hp5, hb5⟩
        obtain ⟨vb, vd, e5⟩ := hp5.slice
        rw [pairsR_len HJ.out.isM] at e5
        subst e5
        have M5 := Lib.hid (M4.out.below hb5)
        have B5 := Lib.hid (onward hb5 B4.out)
        obtain ⟨z0, z1, z2⟩ := KX.out _ B5.out
        have HSZ : Hid (size D ≤ 100000) := by have := MR.out.now.size_le; have := HNN.out; show _ ≤ _; omega
        have JD : Hid (JnR D (k + 1)) := ⟨HJ.out.isM, HJ.out.wf, by have := HJ.out.last; omega⟩
        have HF2 : Hid (xe = 3 → (r : Int) ≤ (size D : Nat) + 1 + ps.length) := HF.out
        clear hp5 hb5 M4 HF
        generalize size D = sz at *
        have hnn := HNN.out
        have h60 := H60.out
        by_cases h3 : xe = 3
        · subst h3
          have hf := HF2.out rfl
          have hsz := HSZ.out
          have hs1 := S1.out
          have hw1 : wrap64 ((sz : Int) + 1) = (sz : Int) + 1 := by unfold wrap64; omega
          have hw2 : wrap64 ((sz : Int) + 1 + (ps.length : Int)) = (sz : Int) + 1 + (ps.length : Int) := by unfold wrap64; omega
          have hd : decide ((sz : Int) + 1 + (ps.length : Int) < (r : Int)) = false := decide_eq_false (by omega)
          clear hf hsz HF2
          go_wp2_with fail
          go_roundw
          case rel => exact ⟨k + 1, n + ps.length + 2, w3.heap.size, b2, D, by omega, by omega, by go_num, JD.out, M5.out, G4.out, B5.out⟩
          case measure => simp [intOf]; omega
        · have hs1 := S1.out
          clear HF2
          go_wp2_with fail
          go_roundw
          case rel => exact ⟨k + 1, n + ps.length + 2, w3.heap.size, b2, D, by omega, by omega, by go_num, JD.out, M5.out, G4.out, B5.out⟩
          case measure => simp [intOf]; omega
      · injection hpo with hp1 hpo
        injection hpo with hp2 hp3
        subst hp1
        subst hp2
        subst hp3
        have JD : Hid (JnR (postD D t tn ps) (k + 1)) := ⟨isM_post HJ.out.isM, wf_post HJ.out.isM HJ.out.wf (may_apart g2).1 (by have := HJ.out.last; have := HNN.out; omega), by rw [post_lastN HJ.out.isM (by have := HJ.out.last; have := HNN.out; omega)]; have := HJ.out.last; omega⟩
        clear HC g1 g2 g3 g4 g5
        go_wp2_with fail
        refine (commit_any w3 M3.out).mono ?_
        rintro e w4 ⟨rfl, hm, hg⟩
        have M4 := Lib.hid hm
        have B4 : Hid (Below w.heap.size w w4) := B3.out.grown hg B3.out.size (fun j hj => by cases hj; exact HP.out)
        have hnn := HNN.out
        have h60 := H60.out
        have hs1 := S1.out
        clear hm hg M3
        go_wp2_with fail
        go_roundw
        case rel => exact ⟨k + 1, n + ps.length + 2, b1, w3.heap.size, postD D t tn ps, by omega, by omega, by go_num, JD.out, M4.out, GR.out, B4.out⟩
        case measure => simp [intOf]; omega
    · have dk : decide ((k : Int) < ((L.length : Nat) : Int)) = false := decide_eq_false (by omega)
      go_wp2_with fail
      refine (posts17_any wr (HE.out.below BR.out)).mono ?_
      rintro e w2 ⟨rfl, hb⟩
      have B2 := Lib.hid (onward hb BR.out)
      clear hb
      go_wp2_with fail
      go_ret
      exact ⟨rfl, B2.out⟩
end Go.Proofs.YtecbnhmnhcpcmaaGreatDoor
