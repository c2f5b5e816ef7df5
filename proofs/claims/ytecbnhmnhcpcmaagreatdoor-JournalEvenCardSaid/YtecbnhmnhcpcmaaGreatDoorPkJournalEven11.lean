/- The walk of entry.PutPosting. (Printed by gen_jni.py.) -/
import Derived.Test.YtecbnhmnhcpcmaaGreatDoorPkJournalEven10
/-! The walk of entry.PutPosting. (Printed by gen_jni.py.) -/
namespace Go.Proofs.YtecbnhmnhcpcmaaGreatDoor
open Go.RowKit Go.WideMaps Go.Maps
set_option linter.unusedVariables false
set_option linter.unusedSimpArgs false
set_option maxRecDepth 100000
set_option maxHeartbeats 8000000 in
theorem putp_any (seq : Nat) (time : Int) (ten : Nat) (lv : Value) (L : List Pt) (w : World) (hl : RowsIn w lv 2 (L.map Pt.cells)) (hs : seq < 18446744073709551616) (ht : ten < 4294967296) :
    Calls Tryz.prog 30 #[postV seq time ten lv] w (PutpEnd seq time ten L w) := by
  have PX := Lib.hid (fun (W : World) (hb : Below w.heap.size w W) => posts_any seq time ten lv L W (hl.below hb))
  have HL := Lib.hid hl
  obtain ⟨a, c, rfl⟩ := pt_form hl
  clear hl
  show Calls Tryz.prog 30 #[.agg #[.int .u64 seq, .int .i64 time, .int .u32 ten, .slice a L.length c]] w _
  have B0 := Lib.hid (below_alloc w (.cells #[.int .u64 seq, .int .i64 time, .int .u32 ten, .slice a L.length c] 49))
  have G0 := Lib.hid (heap_alloc_new w (.cells #[.int .u64 seq, .int .i64 time, .int .u32 ten, .slice a L.length c] 49))
  go_enter Tryz.func30, Tryz.ntmps30
  go_wp2_with fail
  refine (PX.out _ B0.out).mono ?_
  generalize w.alloc (.cells #[.int .u64 seq, .int .i64 time, .int .u32 ten, .slice a L.length c] 49) = W0 at *
  rintro e w1 ⟨rfl, hb⟩
  have Y1 := Lib.hid hb
  clear hb PX
  cases hp : postsB seq time L
  · have HP := Lib.hid hp
    clear hp
    go_wp2_with fail
    go_ret2
    exact PutpEnd.no HP.out (onward Y1.out B0.out) rfl
  obtain ⟨p1, p2, p3, p4, p5, p6⟩ := posts_yes hp
  have HP6 := Lib.hid p6
  have HP := Lib.hid hp
  clear hp p6
  have hwt : IntKind.u64.wrap ten = ten := by
    have e : IntKind.u64.wrap ten = (ten : Int) % 18446744073709551616 := rfl
    rw [e]
    omega
  have hwl : IntKind.u64.wrap ((L.length : Nat) : Int) = ((L.length : Nat) : Int) := by
    have e : IntKind.u64.wrap ((L.length : Nat) : Int) = ((L.length : Nat) : Int) % 18446744073709551616 := rfl
    rw [e]
    omega
  have KS : Hid (∀ W, Below w1.heap.size w1 W → W.cell? ⟨w.heap.size, 0, none⟩ = some (.int .u64 seq) ∧ W.cell? ⟨w.heap.size, 1, none⟩ = some (.int .i64 time) ∧ W.cell? ⟨w.heap.size, 2, none⟩ = some (.int .u32 ten) ∧ W.cell? ⟨w.heap.size, 3, none⟩ = some (.slice a L.length c)) := fun W hb => post_cells (stays_block (onward hb Y1.out) G0.out)
  go_upto_region 3 with fail
  refine wp_region_held_drew (S := (fun W => W.cell? ⟨w.heap.size, 0, none⟩ = some (.int .u64 seq) ∧ W.cell? ⟨w.heap.size, 1, none⟩ = some (.int .i64 time) ∧ W.cell? ⟨w.heap.size, 2, none⟩ = some (.int .u32 ten) ∧ W.cell? ⟨w.heap.size, 3, none⟩ = some (.slice a L.length c))) (by kernel_rfl) ?_ (fun hHeld => ?_)
  · (try dsimp only)
    exact KS.out _ (Below.refl _ _).drew
  refine Plan.start (plan := [0, 1, 3, 4, 6, 7, 8]) (fuel := 4) (by decide +kernel) (by assumption) ?_
  refine Plan.free (i := 0) (ds := some 10) (v := ?_) rfl rfl rfl ?_ (fun _ _ _ h => h) ?_
  rotate_left
  · (intro w hSw; (try dsimp only at hSw); go_simp; first | done | with_reducible rfl)
  (try simp only [Act.put, List.setIfInBounds_toArray, List.set_cons_zero, List.set_cons_succ])
  refine Plan.free (i := 1) (ds := some 11) (v := ?_) rfl rfl rfl ?_ (fun _ _ _ h => h) ?_
  rotate_left
  · (intro w hSw; (try dsimp only at hSw); go_simp; first | done | with_reducible rfl)
  (try simp only [Act.put, List.setIfInBounds_toArray, List.set_cons_zero, List.set_cons_succ])
  refine Plan.free (i := 3) (ds := some 13) (v := ?_) rfl rfl rfl ?_ (fun _ _ _ h => h) ?_
  rotate_left
  · (intro w hSw; (try dsimp only at hSw); go_simp; first | done | with_reducible rfl)
  (try simp only [Act.put, List.setIfInBounds_toArray, List.set_cons_zero, List.set_cons_succ])
  refine Plan.free (i := 4) (ds := some 14) (v := ?_) rfl rfl rfl ?_ (fun _ _ _ h => h) ?_
  rotate_left
  · (intro w hSw; (try dsimp only at hSw); go_simp; first | done | with_reducible rfl)
  (try simp only [Act.put, List.setIfInBounds_toArray, List.set_cons_zero, List.set_cons_succ])
  refine Plan.free (i := 6) (ds := some 16) (v := ?_) rfl rfl rfl ?_ (fun _ _ _ h => h) ?_
  rotate_left
  · (intro w hSw; (try dsimp only at hSw); go_simp; first | done | with_reducible rfl)
  (try simp only [Act.put, List.setIfInBounds_toArray, List.set_cons_zero, List.set_cons_succ])
  refine Plan.free (i := 7) (ds := some 17) (v := ?_) rfl rfl rfl ?_ (fun _ _ _ h => h) ?_
  rotate_left
  · (intro w hSw; (try dsimp only at hSw); go_simp; first | done | with_reducible rfl)
  (try simp only [Act.put, List.setIfInBounds_toArray, List.set_cons_zero, List.set_cons_succ])
  refine Plan.free (i := 8) (ds := some 18) (v := ?_) rfl rfl rfl ?_ (fun _ _ _ h => h) ?_
  rotate_left
  · (intro w hSw; (try dsimp only at hSw); go_simp; first | done | with_reducible rfl)
  (try simp only [Act.put, List.setIfInBounds_toArray, List.set_cons_zero, List.set_cons_succ])
  refine Plan.stop (fun hHeld => ?_)
  refine wpAnyH_ready (rs := [2]) (by decide +kernel) (by simp) ?_
  refine AllReadyH.cons (o := _) rfl ?_ AllReadyH.nil
  intro K hK
  rw [if_pos (wanted_none (by rfl))]
  (go_simp; go_at_call 53; refine (wuint_any 0 (.slice none 0 0) [] seq _ (BytesAt.of_own (base := 0) (World.ownsRow_nil _ _ _ _)) (by simp) hs).mono ?_; rintro e w2 ⟨v2, rfl, hB, hb⟩; have H2 := Lib.hid hB; have Y2 := Lib.hid (onward hb (Below.refl _ _).drew); clear hb hB)
  refine hK.out _ _ ?_ (fun hHeld => ?_)
  · (try dsimp only)
    exact KS.out _ Y2.out
  clear hK K
  (try simp only [Act.put, List.setIfInBounds_toArray, List.set_cons_zero, List.set_cons_succ])
  refine wpAnyH_ready (rs := [5]) (by decide +kernel) (by simp) ?_
  refine AllReadyH.cons (o := _) rfl ?_ AllReadyH.nil
  intro K hK
  rw [if_pos (wanted_none (by rfl))]
  (go_simp; go_at_call 54; refine (wint_any 0 v2 _ time _ H2.out (by simp [big8])).mono ?_; rintro e w3 ⟨v3, rfl, hB, hb⟩; have H3 := Lib.hid hB; have Y3 := Lib.hid (onward hb Y2.out); clear hb hB)
  refine hK.out _ _ ?_ (fun hHeld => ?_)
  · (try dsimp only)
    exact KS.out _ Y3.out
  clear hK K
  (try simp only [Act.put, List.setIfInBounds_toArray, List.set_cons_zero, List.set_cons_succ])
  refine wpAnyH_ready (rs := [9]) (by decide +kernel) (by simp) ?_
  refine AllReadyH.cons (o := _) rfl ?_ AllReadyH.nil
  intro K hK
  rw [if_pos (wanted_none (by rfl))]
  (go_simp; go_at_call 53; refine (wuint_any 0 v3 _ ten _ H3.out (by simp [big8]) (by omega)).mono ?_; rintro e w4 ⟨v4, rfl, hB, hb⟩; have H4 := Lib.hid hB; have Y4 := Lib.hid (onward hb Y3.out); clear hb hB)
  refine hK.out _ _ ?_ (fun hHeld => ?_)
  · (try dsimp only)
    exact KS.out _ Y4.out
  clear hK K
  (try simp only [Act.put, List.setIfInBounds_toArray, List.set_cons_zero, List.set_cons_succ])
  refine Plan.start (plan := [10]) (fuel := 0) (by decide +kernel) (by assumption) ?_
  refine Plan.free (i := 10) (ds := some 4) (v := ?_) rfl rfl rfl ?_ (fun _ _ _ h => h) ?_
  rotate_left
  · (intro w hSw; (try dsimp only at hSw); go_simp; first | done | with_reducible rfl)
  (try simp only [Act.put, List.setIfInBounds_toArray, List.set_cons_zero, List.set_cons_succ])
  refine Plan.stop (fun hHeld => ?_)
  refine wpAnyH_done (by decide +kernel) ?_ _
  go_wp2_with fail
  obtain ⟨-, -, -, q3⟩ := KS.out _ Y4.out
  go_wp2_with fail
  refine (wuint_any 0 v4 _ L.length _ H4.out (by simp [big8]) (by omega)).mono ?_
  rintro e w5 ⟨v5, rfl, hB, hb⟩
  have H5 : Hid (BytesAt 0 w5 v5 (headL seq time ten L.length)) := hB
  have Y5 := Lib.hid (onward hb Y4.out)
  have B5 := Lib.hid (onward (onward Y5.out Y1.out) B0.out)
  clear hb hB q3 H2 H3 H4 Y2 Y3 Y4
  obtain ⟨-, -, -, q3⟩ := KS.out _ Y5.out
  go_wp2_with fail
  clear q3
  go_loopw [4, 29] (fun bv iv wr => ∃ (k : Nat) (xs : Bs), k ≤ L.length ∧ iv = .int .i64 k ∧ Hid (xs = headL seq time ten L.length ++ (L.take k).flatMap partL) ∧ Hid (BytesAt 0 wr bv xs) ∧ Hid (Below w.heap.size w wr)) (fun _ iv _ => L.length - (intOf iv).toNat)
  case atStart => exact ⟨0, headL seq time ten L.length, by omega, rfl, by (show _ = _); simp, H5.out, B5.out⟩
  case round =>
    obtain ⟨k, xs, hk, rfl, HXS0, HX, BR⟩ := hrel
    have hxl : xs.length ≤ 1000 := by
      have h := parts_len (L.take k) (fun p hp => (HP6.out p (List.mem_of_mem_take hp)).2.1)
      rw [HXS0.out, List.length_append, headL_len]
      have h2 : (L.take k).length ≤ 16 := by rw [List.length_take]; omega
      omega
    by_cases hlt : k < L.length
    · obtain ⟨g, o, rfl, y0, y1⟩ := pt_cells (HL.out.below BR.out) k hlt
      have hz : (k : Int) < L.length := by omega
      have HST0 : Hid (headL seq time ten L.length ++ (L.take (k + 1)).flatMap partL = xs ++ partL L[k]) := by
        show _ = _
        rw [HXS0.out, List.take_succ_eq_append_getElem hlt, List.flatMap_append, List.append_assoc]
        simp
      have h32 := (HP6.out L[k] (List.getElem_mem hlt)).2.1
      generalize L[k] = p at *
      obtain ⟨s, m⟩ := p
      dsimp only at y0 y1 h32
      have hsl : s.data.toList.length = s.size := by rw [Array.length_toList]; rfl
      have HXS : Hid (xs ++ partL ⟨s, m⟩ = xs ++ ((big8 s.data.toList.length).drop 4) ++ s.data.toList ++ big8 (toU m)) := by
        show _ = _
        unfold partL
        rw [hsl]
        simp [List.append_assoc]
      have HST : Hid (xs ++ partL ⟨s, m⟩ = headL seq time ten L.length ++ (L.take (k + 1)).flatMap partL) := HST0.out.symm
      have ba := below_alloc wr (.cells #[.string s, .int .i64 m] 41)
      have P6 := Lib.hid (heap_alloc_new wr (.cells #[.string s, .int .i64 m] 41))
      have HX6 := Lib.hid (HX.out.below ba)
      have BV := Lib.hid (onward ba BR.out)
      clear ba HX BR HST0 HXS0
      go_upto_region 8 with fail
      generalize wr.alloc (.cells #[.string s, .int .i64 m] 41) = V at *
      have HX := HX6
      have KT : Hid (∀ W, Below V.heap.size V W → W.cell? ⟨wr.heap.size, 0, none⟩ = some (.string s) ∧ W.cell? ⟨wr.heap.size, 1, none⟩ = some (.int .i64 m)) := fun W hb => part_cells2 (stays_block hb P6.out)
      have SB := string_bytes
      refine wp_region_held_drew (S := (fun W => W.cell? ⟨wr.heap.size, 0, none⟩ = some (.string s) ∧ W.cell? ⟨wr.heap.size, 1, none⟩ = some (.int .i64 m))) (by kernel_rfl) ?_ (fun hHeld => ?_)
      · (try dsimp only)
        exact KT.out _ (Below.refl _ _).drew
      refine Plan.start (plan := [0, 1, 2, 5, 6]) (fuel := 4) (by decide +kernel) (by assumption) ?_
      refine Plan.free (i := 0) (ds := some 33) (v := ?_) rfl rfl rfl ?_ (fun _ _ _ h => h) ?_
      rotate_left
      · (intro w hSw; (try dsimp only at hSw); go_simp; first | done | with_reducible rfl)
      (try simp only [Act.put, List.setIfInBounds_toArray, List.set_cons_zero, List.set_cons_succ])
      refine Plan.free (i := 1) (ds := some 34) (v := ?_) rfl rfl rfl ?_ (fun _ _ _ h => h) ?_
      rotate_left
      · (intro w hSw; (try dsimp only at hSw); go_simp; first | done | with_reducible rfl)
      (try simp only [Act.put, List.setIfInBounds_toArray, List.set_cons_zero, List.set_cons_succ])
      refine Plan.free (i := 2) (ds := some 35) (v := ?_) rfl rfl rfl ?_ (fun _ _ _ h => h) ?_
      rotate_left
      · (intro w hSw; (try dsimp only at hSw); go_simp; first | done | with_reducible rfl)
      (try simp only [Act.put, List.setIfInBounds_toArray, List.set_cons_zero, List.set_cons_succ])
      refine Plan.free (i := 5) (ds := some 38) (v := ?_) rfl rfl rfl ?_ (fun _ _ _ h => h) ?_
      rotate_left
      · (intro w hSw; (try dsimp only at hSw); go_simp; first | done | with_reducible rfl)
      (try simp only [Act.put, List.setIfInBounds_toArray, List.set_cons_zero, List.set_cons_succ])
      refine Plan.free (i := 6) (ds := some 39) (v := ?_) rfl rfl rfl ?_ (fun _ _ _ h => h) ?_
      rotate_left
      · (intro w hSw; (try dsimp only at hSw); go_simp; first | done | with_reducible rfl)
      (try simp only [Act.put, List.setIfInBounds_toArray, List.set_cons_zero, List.set_cons_succ])
      refine Plan.stop (fun hHeld => ?_)
      refine wpAnyH_ready (rs := [3]) (by decide +kernel) (by simp) ?_
      refine AllReadyH.cons (o := _) rfl ?_ AllReadyH.nil
      intro K hK
      rw [if_pos (wanted_none (by rfl))]
      (go_simp; have HBB := Lib.hid (bytesWorld_at (B := 0) V.drew s (grownCap V.drew s.size 0 5)); have Y6 := Lib.hid (onward (below_bytes V.drew s) (Below.refl _ _).drew); generalize Lib.bytesWorld V.drew 5 s = V6 at *)
      refine hK.out _ _ ?_ (fun hHeld => ?_)
      · (try dsimp only)
        exact KT.out _ Y6.out
      clear hK K
      (try simp only [Act.put, List.setIfInBounds_toArray, List.set_cons_zero, List.set_cons_succ])
      refine wpAnyH_ready (rs := [4]) (by decide +kernel) (by simp) ?_
      refine AllReadyH.cons (o := _) rfl ?_ AllReadyH.nil
      intro K hK
      rw [if_pos (wanted_none (by rfl))]
      (go_simp; go_at_call 55; refine (wtext_any 0 0 u4 _ xs s.data.toList _ (HX.out.below Y6.out) HBB.out (by omega) (by omega)).mono ?_; rintro e w7 ⟨v7, rfl, hB, hb⟩; have H7 := Lib.hid hB; have Y7 := Lib.hid (onward hb Y6.out); clear hb hB)
      refine hK.out _ _ ?_ (fun hHeld => ?_)
      · (try dsimp only)
        exact KT.out _ Y7.out
      clear hK K
      (try simp only [Act.put, List.setIfInBounds_toArray, List.set_cons_zero, List.set_cons_succ])
      refine wpAnyH_ready (rs := [7]) (by decide +kernel) (by simp) ?_
      refine AllReadyH.cons (o := _) rfl ?_ AllReadyH.nil
      intro K hK
      rw [if_pos (wanted_none (by rfl))]
      (go_simp; go_at_call 54; refine (wint_any 0 v7 _ m _ H7.out (by rw [List.length_append, List.length_append, List.length_drop, big8_len]; omega)).mono ?_; rintro e w8 ⟨v8, rfl, hB, hb⟩; have H8 := Lib.hid hB; have Y8 := Lib.hid (onward hb Y7.out); clear hb hB)
      refine hK.out _ _ ?_ (fun hHeld => ?_)
      · (try dsimp only)
        exact KT.out _ Y8.out
      clear hK K
      (try simp only [Act.put, List.setIfInBounds_toArray, List.set_cons_zero, List.set_cons_succ])
      refine Plan.start (plan := [8]) (fuel := 0) (by decide +kernel) (by assumption) ?_
      refine Plan.free (i := 8) (ds := some 4) (v := ?_) rfl rfl rfl ?_ (fun _ _ _ h => h) ?_
      rotate_left
      · (intro w hSw; (try dsimp only at hSw); go_simp; first | done | with_reducible rfl)
      (try simp only [Act.put, List.setIfInBounds_toArray, List.set_cons_zero, List.set_cons_succ])
      refine Plan.stop (fun hHeld => ?_)
      refine wpAnyH_done (by decide +kernel) ?_ _
      go_wp2_with fail
      go_roundw
      case rel => exact ⟨k + 1, _, by omega, by go_num, HST.out, by (show BytesAt _ _ _ _); rw [HXS.out]; exact H8.out, onward Y8.out BV.out⟩
      case measure => simp [intOf]; omega
    · obtain rfl : k = L.length := by omega
      have HX0 := HX.out
      rw [HXS0.out, List.take_length] at HX0
      have HX1 := Lib.hid HX0
      clear HX0 HX HXS0
      go_wp2_with fail
      go_ret2
      exact PutpEnd.yes HP.out BR.out HX1.out rfl
end Go.Proofs.YtecbnhmnhcpcmaaGreatDoor
