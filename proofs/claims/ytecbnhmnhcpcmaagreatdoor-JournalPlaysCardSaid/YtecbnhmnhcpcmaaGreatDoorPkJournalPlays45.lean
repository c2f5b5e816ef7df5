/- The walk of journal.Get of what was posted. (Printed by gen_jwh.py.) -/
import Derived.Test.YtecbnhmnhcpcmaaGreatDoorPkJournalPlays44
import Derived.Test.YtecbnhmnhcpcmaaGreatDoorPkJournalPlays33
/-! The walk of journal.Get of what was posted. (Printed by gen_jwh.py.) -/
namespace Go.Proofs.YtecbnhmnhcpcmaaGreatDoor
open Go.RowKit Go.WideMaps Go.Maps
set_option linter.unusedVariables false
set_option linter.unusedSimpArgs false
set_option maxRecDepth 100000
set_option maxHeartbeats 1000000 in
theorem gets_any {p b1 b2 n : Nat} {room : Int} {D D2 : DM} {seq ten : Nat} {t : Int} {L : List Pt} (w : World) (hM : MemS w p b1 b2 room n D D2) (x : Nat) (hx : x < 18446744073709551616) (hg : gt D (106 :: big8 x) = some (postL seq t ten L)) (hp : postsB seq t L = true) (hs : seq < 18446744073709551616) (ht : Acct.inInt t) (hten : ten < 4294967296) (hL : L.length ≤ 16) (hq : ∀ q ∈ L, 0 < q.a.size ∧ q.a.size ≤ 32 ∧ Acct.inInt q.n) :
    Calls Tryz.prog 15 #[memI p, .int .u64 x] w (PostRead seq t ten L w) := by
  have HM := Lib.hid hM
  have HG := Lib.hid hg
  have HX := Lib.hid hx
  have PX := Lib.hid (fun (v : Value) (W : World) (hB : BytesAt 0 W v (postL seq t ten L)) => getposting_any v W hB hp hs ht hten hL hq)
  have hna := nil_get p
  obtain ⟨w1, hw1⟩ : ∃ W, W = w.alloc (.cells #[.int .u64 0, .int .i64 0, .int .u32 0, .slice none 0 0] 49) := ⟨_, rfl⟩
  have hb1 : Below w.heap.size w w1 := by rw [hw1]; exact below_alloc _ _
  have B1 := Lib.hid hb1
  have HB1 : Hid (w1.heap[w.heap.size]? = some (.cells #[.int .u64 0, .int .i64 0, .int .u32 0, .slice none 0 0] 49 (0, 0))) := by rw [hw1]; exact alloc_block _ _ _ _
  clear hM hg hx hb1 hp hs ht hten hL hq
  go_enter Tryz.func15, Tryz.ntmps15
  go_upto_region 1 with fail
  rw [← hw1]
  clear hw1
  refine wp_region_held_drew (S := (fun _ => True)) (by kernel_rfl) ?_ (fun hHeld => ?_)
  · (try dsimp only)
    all_goals trivial
  refine Plan.start (plan := [0, 1, 4, 5, 6]) (fuel := 10) (by decide +kernel) (by assumption) ?_
  refine Plan.free (i := 0) (ds := some 10) (v := ?_) rfl rfl rfl ?_ (fun _ _ _ h => h) ?_
  rotate_left
  · (intro w hSw; (try dsimp only at hSw); go_simp; first | done | with_reducible rfl)
  (try simp only [Act.put, List.setIfInBounds_toArray, List.set_cons_zero, List.set_cons_succ])
  refine Plan.free (i := 1) (ds := some 11) (v := ?_) rfl rfl rfl ?_ (fun _ _ _ h => h) ?_
  rotate_left
  · (intro w hSw; (try dsimp only at hSw); go_simp; first | done | with_reducible rfl)
  (try simp only [Act.put, List.setIfInBounds_toArray, List.set_cons_zero, List.set_cons_succ])
  refine Plan.free (i := 4) (ds := some 14) (v := ?_) rfl rfl rfl ?_ (fun _ _ _ h => h) ?_
  rotate_left
  · (intro w hSw; (try dsimp only at hSw); go_simp; first | done | with_reducible rfl)
  (try simp only [Act.put, List.setIfInBounds_toArray, List.set_cons_zero, List.set_cons_succ])
  refine Plan.free (i := 5) (ds := some 15) (v := ?_) rfl rfl rfl ?_ (fun _ _ _ h => h) ?_
  rotate_left
  · (intro w hSw; (try dsimp only at hSw); go_simp; first | done | with_reducible rfl)
  (try simp only [Act.put, List.setIfInBounds_toArray, List.set_cons_zero, List.set_cons_succ])
  refine Plan.free (i := 6) (ds := some 16) (v := ?_) rfl rfl rfl ?_ (fun _ _ _ h => h) ?_
  rotate_left
  · (intro w hSw; (try dsimp only at hSw); go_simp; first | done | with_reducible rfl)
  (try simp only [Act.put, List.setIfInBounds_toArray, List.set_cons_zero, List.set_cons_succ])
  refine Plan.stop (fun hHeld => ?_)
  refine wpAnyH_ready (rs := [2]) (by decide +kernel) (by simp) ?_
  refine AllReadyH.cons (o := _) rfl ?_ AllReadyH.nil
  intro K hK
  rw [if_pos (wanted_none (by rfl))]
  (go_simp; obtain ⟨W2, h2⟩ : ∃ W, W = (w1.alloc (.cells #[.int .u64 x] 23)).drew := ⟨_, rfl⟩; rw [← h2]; have B2 : Hid (Below w1.heap.size w1 W2) := (by rw [h2]; exact (below_alloc _ _).drew); have C2 : Hid (W2.cell? ⟨w1.heap.size, 0, none⟩ = some (.int .u64 x)) := (by rw [h2]; show (w1.alloc _).cell? _ = _; rw [cell_of_row (alloc_block _ _ _ _)]; rfl); clear h2)
  refine hK.out _ _ ?_ (fun hHeld => ?_)
  · (try dsimp only)
    all_goals trivial
  clear hK K
  (try simp only [Act.put, List.setIfInBounds_toArray, List.set_cons_zero, List.set_cons_succ])
  refine wpAnyH_ready (rs := [3]) (by decide +kernel) (by simp) ?_
  refine AllReadyH.cons (o := _) rfl ?_ AllReadyH.nil
  intro K hK
  rw [if_pos (wanted_none (by rfl))]
  (go_simp; go_at_call 36; refine (key1_any 106 x w1.heap.size W2 HX.out C2.out).mono ?_; rintro e W3 ⟨kv, rfl, hk, hb⟩; have B3 : Hid (Below w1.heap.size w1 W3) := onward hb B2.out; have K3 := Lib.hid hk; clear hk hb)
  refine hK.out _ _ ?_ (fun hHeld => ?_)
  · (try dsimp only)
    all_goals trivial
  clear hK K
  (try simp only [Act.put, List.setIfInBounds_toArray, List.set_cons_zero, List.set_cons_succ])
  refine wpAnyH_ready (rs := [7]) (by decide +kernel) (by simp) ?_
  refine AllReadyH.cons (o := _) rfl ?_ AllReadyH.nil
  intro K hK
  rw [if_pos (wanted_none (by rfl))]
  (go_simp; refine (get_any W3 (HM.out.below (onward B3.out B1.out)) kv (106 :: big8 x) K3.out (by simp [big8])).mono ?_; rintro e W4 ⟨hb, hm⟩; rw [HG.out] at hm; have hm2 : ∃ v, BytesAt 0 W4 v (postL seq t ten L) ∧ _ ∧ e = .returned (.tuple #[v, .bool true, .int .i64 0]) := hm; clear hm; obtain ⟨gv, hgv, hgl, rfl⟩ := hm2; have V4 := Lib.hid hgv; obtain ⟨ga, gc, rfl⟩ := hgv.form; clear hgv hgl; have B4 : Hid (Below w1.heap.size w1 W4) := onward hb B3.out; clear hb)
  refine hK.out _ _ ?_ (fun hHeld => ?_)
  · (try dsimp only)
    all_goals trivial
  clear hK K
  (try simp only [Act.put, List.setIfInBounds_toArray, List.set_cons_zero, List.set_cons_succ])
  refine Plan.start (plan := [8, 9, 10, 11, 12, 13, 14]) (fuel := 0) (by decide +kernel) (by assumption) ?_
  refine Plan.free (i := 8) (ds := some 9) (v := ?_) rfl rfl rfl ?_ (fun _ _ _ h => h) ?_
  rotate_left
  · (intro w hSw; (try dsimp only at hSw); go_simp; first | done | with_reducible rfl)
  (try simp only [Act.put, List.setIfInBounds_toArray, List.set_cons_zero, List.set_cons_succ])
  refine Plan.free (i := 9) (ds := some 18) (v := ?_) rfl rfl rfl ?_ (fun _ _ _ h => h) ?_
  rotate_left
  · (intro w hSw; (try dsimp only at hSw); go_simp; first | done | with_reducible rfl)
  (try simp only [Act.put, List.setIfInBounds_toArray, List.set_cons_zero, List.set_cons_succ])
  refine Plan.free (i := 10) (ds := some 19) (v := ?_) rfl rfl rfl ?_ (fun _ _ _ h => h) ?_
  rotate_left
  · (intro w hSw; (try dsimp only at hSw); go_simp; first | done | with_reducible rfl)
  (try simp only [Act.put, List.setIfInBounds_toArray, List.set_cons_zero, List.set_cons_succ])
  refine Plan.free (i := 11) (ds := some 20) (v := ?_) rfl rfl rfl ?_ (fun _ _ _ h => h) ?_
  rotate_left
  · (intro w hSw; (try dsimp only at hSw); go_simp; first | done | with_reducible rfl)
  (try simp only [Act.put, List.setIfInBounds_toArray, List.set_cons_zero, List.set_cons_succ])
  refine Plan.free (i := 12) (ds := some 6) (v := ?_) rfl rfl rfl ?_ (fun _ _ _ h => h) ?_
  rotate_left
  · (intro w hSw; (try dsimp only at hSw); go_simp; first | done | with_reducible rfl)
  (try simp only [Act.put, List.setIfInBounds_toArray, List.set_cons_zero, List.set_cons_succ])
  refine Plan.free (i := 13) (ds := some 7) (v := ?_) rfl rfl rfl ?_ (fun _ _ _ h => h) ?_
  rotate_left
  · (intro w hSw; (try dsimp only at hSw); go_simp; first | done | with_reducible rfl)
  (try simp only [Act.put, List.setIfInBounds_toArray, List.set_cons_zero, List.set_cons_succ])
  refine Plan.free (i := 14) (ds := some 8) (v := ?_) rfl rfl rfl ?_ (fun _ _ _ h => h) ?_
  rotate_left
  · (intro w hSw; (try dsimp only at hSw); go_simp; first | done | with_reducible rfl)
  (try simp only [Act.put, List.setIfInBounds_toArray, List.set_cons_zero, List.set_cons_succ])
  refine Plan.stop (fun hHeld => ?_)
  refine wpAnyH_done (by decide +kernel) ?_ _
  have GX := Lib.hid (PX.out _ W4 V4.out)
  clear PX hna
  go_wp2_with fail
  refine GX.out.mono ?_
  rintro e W5 ⟨lv, rfl, ho, hb⟩
  obtain ⟨la, lc, rfl⟩ := ownP_slice ho rfl
  have hz := stays_block hb (stays_block B4.out HB1.out)
  obtain ⟨f0, f1, f2, f3, g0, g1, g2, g3⟩ := zero_facts hz
  have hlt : w.heap.size < W4.heap.size := Nat.lt_of_lt_of_le (lt_of_block HB1.out) B4.out.size
  obtain ⟨WF, hWF, FL, FO, FB⟩ := post_fin (seq := seq) (t := t) (ten := ten) hz ho hlt
  have HL := Lib.hid FL
  have HO := Lib.hid (own_base (Nat.le_of_lt hlt) FO)
  have HBW := Lib.hid (FB _ _ (onward hb (onward B4.out B1.out)) (Nat.le_refl _))
  clear ho hb hz FL FO FB GX hlt
  go_wp2_with fail
  rw [← hWF]
  clear hWF
  (try simp only [Exit.inBlock, Exit.then])
  refine bodyPost_ret (v := .tuple #[.agg #[.int .u64 seq, .int .i64 t, .int .u32 ten, .slice la L.length lc], .int .i64 0]) ?_ rfl ⟨_, rfl, HO.out, HBW.out⟩
  rw [results_cell_tmp rfl]
  have hfl := HL.out
  simp [asAddr, Result.andThen, hfl]
end Go.Proofs.YtecbnhmnhcpcmaaGreatDoor
