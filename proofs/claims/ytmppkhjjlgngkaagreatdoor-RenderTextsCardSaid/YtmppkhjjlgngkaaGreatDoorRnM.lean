/- The walk of the law's goes. (Printed by gen_rnm.py.) -/
import Derived.Test.YtmppkhjjlgngkaaGreatDoorRnL
namespace Go.Proofs.YtmppkhjjlgngkaaGreatDoor
open Go.RowKit Civ Ren Go.Shelf
set_option linter.unusedVariables false
set_option linter.unusedSimpArgs false
set_option maxHeartbeats 4000000 in
set_option maxRecDepth 1000000 in
theorem goesR_any (w : World) (hE : EnvR w) : Calls Tryz.prog 6 #[] w fun e w' => e = .returned (.bool true) ∧ Below w.heap.size w w' := by
  have HE := Lib.hid hE
  clear hE
  go_enter Tryz.func6, Tryz.ntmps6
  go_wp2_with fail
  refine (one_any w).mono ?_
  rintro e w1 ⟨lv, rfl, hl, hb1⟩
  obtain ⟨a, c, rfl, -, -⟩ := rows_form hl
  have B1 := Lib.hid hb1
  have TX := Lib.hid (rtext_any oneV _ w1 (HE.out.below hb1).env hl ok_one)
  rw [text_one, if_pos may_one] at TX
  clear hl hb1
  go_wp2_with fail
  refine TX.out.mono ?_
  rintro e w2 ⟨rfl, hb⟩
  have B2 := Lib.hid (onward hb B1.out)
  have PX := Lib.hid (rparse_any oneL w2 (HE.out.below (onward hb B1.out)) (by decide))
  clear hb TX
  go_wp2_with fail
  refine PX.out.mono ?_
  rintro e w3 ⟨hb, hm⟩
  rw [parse_one] at hm
  obtain ⟨lv3, hl3, rfl⟩ := hm
  obtain ⟨a3, c3', rfl, -, -⟩ := rows_form hl3
  have B3 := Lib.hid (onward hb B2.out)
  have L3 := Lib.hid hl3
  have hv : oneV.val (.slice a3 (List.map Ren.Ln.cells oneV.ls).length c3') = .agg #[.int .u32 1, .int .u32 2, .int .i64 23640, .slice a3 1 c3', .int .i64 310, .int .i64 0] := rfl
  rw [hv]
  have ba := below_alloc w3 (.cells #[.int .u32 1, .int .u32 2, .int .i64 23640, .slice a3 1 c3', .int .i64 310, .int .i64 0] 25)
  have P4 := Lib.hid (heap_alloc_new w3 (.cells #[.int .u32 1, .int .u32 2, .int .i64 23640, .slice a3 1 c3', .int .i64 310, .int .i64 0] 25))
  have B4 := Lib.hid (onward ba B3.out)
  have L4 : Hid (RowsIn (w3.alloc (.cells #[.int .u32 1, .int .u32 2, .int .i64 23640, .slice a3 1 c3', .int .i64 310, .int .i64 0] 25)) (.slice a3 1 c3') 5 (oneV.ls.map Ren.Ln.cells)) := L3.out.below ba
  clear hb hl3 PX hv ba
  go_upto_region 3 with fail
  generalize w3.alloc (.cells #[.int .u32 1, .int .u32 2, .int .i64 23640, .slice a3 1 c3', .int .i64 310, .int .i64 0] 25) = W4 at *
  have KS : Hid (∀ W, Below W4.heap.size W4 W → W.cell? ⟨w3.heap.size, 0, none⟩ = some (.int .u32 1) ∧ W.cell? ⟨w3.heap.size, 1, none⟩ = some (.int .u32 2) ∧ W.cell? ⟨w3.heap.size, 2, none⟩ = some (.int .i64 23640) ∧ W.cell? ⟨w3.heap.size, 3, none⟩ = some (.slice a3 1 c3') ∧ W.cell? ⟨w3.heap.size, 4, none⟩ = some (.int .i64 310) ∧ W.cell? ⟨w3.heap.size, 5, none⟩ = some (.int .i64 0)) := fun W hb => (cells6 (stays_block hb P4.out)).2
  refine wp_region_held_drew (S := (fun W => W.cell? ⟨w3.heap.size, 0, none⟩ = some (.int .u32 1) ∧ W.cell? ⟨w3.heap.size, 1, none⟩ = some (.int .u32 2) ∧ W.cell? ⟨w3.heap.size, 2, none⟩ = some (.int .i64 23640) ∧ W.cell? ⟨w3.heap.size, 3, none⟩ = some (.slice a3 1 c3') ∧ W.cell? ⟨w3.heap.size, 4, none⟩ = some (.int .i64 310) ∧ W.cell? ⟨w3.heap.size, 5, none⟩ = some (.int .i64 0))) (by kernel_rfl) ?_ (fun hHeld => ?_)
  · (try dsimp only)
    exact KS.out _ (Below.refl _ _).drew
  refine Plan.start (plan := [0, 1, 2, 3, 4, 5, 6, 7, 8, 9, 10, 11]) (fuel := 4) (by decide +kernel) (by assumption) ?_
  refine Plan.free (i := 0) (ds := some 15) (v := ?_) rfl rfl rfl ?_ (fun _ _ _ h => h) ?_
  rotate_left
  · (intro w hSw; (try dsimp only at hSw); go_simp; first | done | with_reducible rfl)
  (try simp only [Act.put, List.setIfInBounds_toArray, List.set_cons_zero, List.set_cons_succ])
  refine Plan.free (i := 1) (ds := some 16) (v := ?_) rfl rfl rfl ?_ (fun _ _ _ h => h) ?_
  rotate_left
  · (intro w hSw; (try dsimp only at hSw); go_simp; first | done | with_reducible rfl)
  (try simp only [Act.put, List.setIfInBounds_toArray, List.set_cons_zero, List.set_cons_succ])
  refine Plan.free (i := 2) (ds := some 17) (v := ?_) rfl rfl rfl ?_ (fun _ _ _ h => h) ?_
  rotate_left
  · (intro w hSw; (try dsimp only at hSw); go_simp; first | done | with_reducible rfl)
  (try simp only [Act.put, List.setIfInBounds_toArray, List.set_cons_zero, List.set_cons_succ])
  refine Plan.on (i := 3) (ds := some 18) (j := 2) (d := 17) (v := ?_) rfl rfl rfl rfl rfl rfl ?_ (fun _ _ _ h => h) ?_
  rotate_left
  · (intro w hSw; (try dsimp only at hSw); go_simp; first | done | with_reducible rfl)
  (try simp only [Act.put, List.setIfInBounds_toArray, List.set_cons_zero, List.set_cons_succ])
  refine Plan.on (i := 4) (ds := some 19) (j := 2) (d := 17) (v := ?_) rfl rfl rfl rfl rfl rfl ?_ (fun _ _ _ h => h) ?_
  rotate_left
  · (intro w hSw; (try dsimp only at hSw); go_simp; first | done | with_reducible rfl)
  (try simp only [Act.put, List.setIfInBounds_toArray, List.set_cons_zero, List.set_cons_succ])
  refine Plan.free (i := 5) (ds := some 20) (v := ?_) rfl rfl rfl ?_ (fun _ _ _ h => h) ?_
  rotate_left
  · (intro w hSw; (try dsimp only at hSw); go_simp; first | done | with_reducible rfl)
  (try simp only [Act.put, List.setIfInBounds_toArray, List.set_cons_zero, List.set_cons_succ])
  refine Plan.free (i := 6) (ds := some 21) (v := ?_) rfl rfl rfl ?_ (fun _ _ _ h => h) ?_
  rotate_left
  · (intro w hSw; (try dsimp only at hSw); go_simp; first | done | with_reducible rfl)
  (try simp only [Act.put, List.setIfInBounds_toArray, List.set_cons_zero, List.set_cons_succ])
  refine Plan.on (i := 7) (ds := some 22) (j := 6) (d := 21) (v := ?_) rfl rfl rfl rfl rfl rfl ?_ (fun _ _ _ h => h) ?_
  rotate_left
  · (intro w hSw; (try dsimp only at hSw); go_simp; first | done | with_reducible rfl)
  (try simp only [Act.put, List.setIfInBounds_toArray, List.set_cons_zero, List.set_cons_succ])
  refine Plan.on (i := 8) (ds := some 23) (j := 6) (d := 21) (v := ?_) rfl rfl rfl rfl rfl rfl ?_ (fun _ _ _ h => h) ?_
  rotate_left
  · (intro w hSw; (try dsimp only at hSw); go_simp; first | done | with_reducible rfl)
  (try simp only [Act.put, List.setIfInBounds_toArray, List.set_cons_zero, List.set_cons_succ])
  refine Plan.free (i := 9) (ds := some 24) (v := ?_) rfl rfl rfl ?_ (fun _ _ _ h => h) ?_
  rotate_left
  · (intro w hSw; (try dsimp only at hSw); go_simp; first | done | with_reducible rfl)
  (try simp only [Act.put, List.setIfInBounds_toArray, List.set_cons_zero, List.set_cons_succ])
  refine Plan.free (i := 10) (ds := some 25) (v := ?_) rfl rfl rfl ?_ (fun _ _ _ h => h) ?_
  rotate_left
  · (intro w hSw; (try dsimp only at hSw); go_simp; first | done | with_reducible rfl)
  (try simp only [Act.put, List.setIfInBounds_toArray, List.set_cons_zero, List.set_cons_succ])
  refine Plan.on (i := 11) (ds := some 26) (j := 10) (d := 25) (v := ?_) rfl rfl rfl rfl rfl rfl ?_ (fun _ _ _ h => h) ?_
  rotate_left
  · (intro w hSw; (try dsimp only at hSw); go_simp; first | done | with_reducible rfl)
  (try simp only [Act.put, List.setIfInBounds_toArray, List.set_cons_zero, List.set_cons_succ])
  refine Plan.stop (fun hHeld => ?_)
  refine wpAnyH_ready (rs := [12]) (by decide +kernel) (by simp) ?_
  refine AllReadyH.cons (o := _) rfl ?_ AllReadyH.nil
  intro K hK
  rw [if_pos (wanted_on (j := 10) (d := 25) (by rfl) (by rfl) (by rfl) (by rfl))]
  (go_simp; go_at_call 13; refine (one_any _).mono ?_; rintro e w5 ⟨lv5, rfl, hl5, hb⟩; have Y5 := Lib.hid (onward hb (Below.refl _ _).drew); have L5 := Lib.hid hl5; clear hb hl5)
  refine hK.out _ _ ?_ (fun hHeld => ?_)
  · (try dsimp only)
    exact KS.out _ Y5.out
  clear hK K
  (try simp only [Act.put, List.setIfInBounds_toArray, List.set_cons_zero, List.set_cons_succ])
  refine wpAnyH_ready (rs := [13]) (by decide +kernel) (by simp) ?_
  refine AllReadyH.cons (o := _) rfl ?_ AllReadyH.nil
  intro K hK
  rw [if_pos (wanted_on (j := 10) (d := 25) (by rfl) (by rfl) (by rfl) (by rfl))]
  (go_simp; go_at_call 15; refine (sameI_any oneV oneV (.slice a3 1 c3') lv5 _ (L4.out.below Y5.out) L5.out).mono ?_; rintro e w6 ⟨t, rfl, ht, hb⟩; obtain rfl : t = true := ht.2 rfl; have Y6 := Lib.hid (onward hb Y5.out); clear hb ht)
  refine hK.out _ _ ?_ (fun hHeld => ?_)
  · (try dsimp only)
    exact KS.out _ Y6.out
  clear hK K
  (try simp only [Act.put, List.setIfInBounds_toArray, List.set_cons_zero, List.set_cons_succ])
  refine Plan.start (plan := [14, 15]) (fuel := 0) (by decide +kernel) (by assumption) ?_
  refine Plan.free (i := 14) (ds := some 29) (v := ?_) rfl rfl rfl ?_ (fun _ _ _ h => h) ?_
  rotate_left
  · (intro w hSw; (try dsimp only at hSw); go_simp; first | done | with_reducible rfl)
  (try simp only [Act.put, List.setIfInBounds_toArray, List.set_cons_zero, List.set_cons_succ])
  refine Plan.free (i := 15) (ds := some 0) (v := ?_) rfl rfl rfl ?_ (fun _ _ _ h => h) ?_
  rotate_left
  · (intro w hSw; (try dsimp only at hSw); go_simp; first | done | with_reducible rfl)
  (try simp only [Act.put, List.setIfInBounds_toArray, List.set_cons_zero, List.set_cons_succ])
  refine Plan.stop (fun hHeld => ?_)
  refine wpAnyH_done (by decide +kernel) ?_ _
  go_wp2_with fail
  go_ret
  exact ⟨rfl, onward Y6.out B4.out⟩
end Go.Proofs.YtmppkhjjlgngkaaGreatDoor
