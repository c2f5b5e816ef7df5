/- The walk of journal.Get of what was not posted. (Printed by gen_jse.py.) The walks of the reference's numbers of 128 bits: Of. -/
import Derived.Test.YtecbnhmnhcpcmaaGreatDoorPkJournalPlays32
import Derived.Laws.ResultCell
import Derived.Test.YtecbnhmnhcpcmaaGreatDoorPkJournalPlays21
/-! The walk of journal.Get of what was not posted. (Printed by gen_jse.py.) -/
namespace Go.Proofs.YtecbnhmnhcpcmaaGreatDoor
open Go.RowKit Go.WideMaps Go.Maps
set_option linter.unusedVariables false
set_option linter.unusedSimpArgs false
set_option maxRecDepth 100000
theorem nil_get (p f : Nat) (w : World) : (nilAhead (f + 1) 25 (.pointer (some ⟨p, 0, none⟩)) "Get").run Tryz.prog w = .ok (some false) w := by kernel_rfl
theorem box4_set {w : World} {p : Nat} {x0 x1 x2 x3 u0 u1 u2 u3 : Value} {T : Nat} (h : w.heap[p]? = some (.cells #[x0, x1, x2, x3] T (0, 0))) : ((((w.setCell ⟨p, 0, none⟩ u0).setCell ⟨p, 1, none⟩ u1).setCell ⟨p, 2, none⟩ u2).setCell ⟨p, 3, none⟩ u3).heap[p]? = some (.cells #[u0, u1, u2, u3] T (0, 0)) := by
  have one : ∀ (W : World) (cs : Array Value) (k : Nat) (u : Value), W.heap[p]? = some (.cells cs T (0, 0)) → (W.setCell ⟨p, k, none⟩ u).heap[p]? = some (.cells (cs.setIfInBounds k u) T (0, 0)) := fun W cs k u h => by
    unfold World.setCell
    simp only [Array.getElem?_modify, if_true, h]
    rfl
  have := one _ _ 3 u3 (one _ _ 2 u2 (one _ _ 1 u1 (one w _ 0 u0 h)))
  simpa using this
set_option maxHeartbeats 1000000 in
theorem getn_any {p b1 b2 n : Nat} {room : Int} {D D2 : DM} (w : World) (hM : MemS w p b1 b2 room n D D2) (x : Nat) (hx : x < 18446744073709551616) (hg : gt D (106 :: big8 x) = none) : Calls Tryz.prog 15 #[memI p, .int .u64 x] w fun e w' => e = .returned (.tuple #[.agg #[.int .u64 0, .int .i64 0, .int .u32 0, .slice none 0 0], .int .i64 4]) ∧ Below w.heap.size w w' := by
  have HM := Lib.hid hM
  have HG := Lib.hid hg
  have HX := Lib.hid hx
  have hna := nil_get p
  obtain ⟨w1, hw1⟩ : ∃ W, W = w.alloc (.cells #[.int .u64 0, .int .i64 0, .int .u32 0, .slice none 0 0] 49) := ⟨_, rfl⟩
  have hb1 : Below w.heap.size w w1 := by rw [hw1]; exact below_alloc _ _
  have B1 := Lib.hid hb1
  have HB1 : Hid (w1.heap[w.heap.size]? = some (.cells #[.int .u64 0, .int .i64 0, .int .u32 0, .slice none 0 0] 49 (0, 0))) := by rw [hw1]; exact alloc_block _ _ _ _
  clear hM hg hx hb1
  go_enter Tryz.func15, Tryz.ntmps15
  go_upto_region 1 with fail
  rw [← hw1]
  clear hw1
  refine wp_region_held_drew (S := (fun _ => True)) (by kernel_rfl) ?_ (fun hHeld => ?_)
  · (try dsimp only)
    all_goals trivial
  refine Plan.start (plan := [0, 1, 4, 5, 6]) (fuel := 10) (by decide +kernel) (by assumption) ?_
  refine Plan.free (i := 0) (ds := some 10) (v := ?_) rfl rfl rfl ?_ (fun _ _ _ h => h) ?_
  rotate_left
  · (intro w hSw; (try dsimp only at hSw); go_simp; first | done | with_reducible rfl)
  (try simp only [Act.put, List.setIfInBounds_toArray, List.set_cons_zero, List.set_cons_succ])
  refine Plan.free (i := 1) (ds := some 11) (v := ?_) rfl rfl rfl ?_ (fun _ _ _ h => h) ?_
  rotate_left
  · (intro w hSw; (try dsimp only at hSw); go_simp; first | done | with_reducible rfl)
  (try simp only [Act.put, List.setIfInBounds_toArray, List.set_cons_zero, List.set_cons_succ])
  refine Plan.free (i := 4) (ds := some 14) (v := ?_) rfl rfl rfl ?_ (fun _ _ _ h => h) ?_
  rotate_left
  · (intro w hSw; (try dsimp only at hSw); go_simp; first | done | with_reducible rfl)
  (try simp only [Act.put, List.setIfInBounds_toArray, List.set_cons_zero, List.set_cons_succ])
  refine Plan.free (i := 5) (ds := some 15) (v := ?_) rfl rfl rfl ?_ (fun _ _ _ h => h) ?_
  rotate_left
  · (intro w hSw; (try dsimp only at hSw); go_simp; first | done | with_reducible rfl)
  (try simp only [Act.put, List.setIfInBounds_toArray, List.set_cons_zero, List.set_cons_succ])
  refine Plan.free (i := 6) (ds := some 16) (v := ?_) rfl rfl rfl ?_ (fun _ _ _ h => h) ?_
  rotate_left
  · (intro w hSw; (try dsimp only at hSw); go_simp; first | done | with_reducible rfl)
  (try simp only [Act.put, List.setIfInBounds_toArray, List.set_cons_zero, List.set_cons_succ])
  refine Plan.stop (fun hHeld => ?_)
  refine wpAnyH_ready (rs := [2]) (by decide +kernel) (by simp) ?_
  refine AllReadyH.cons (o := _) rfl ?_ AllReadyH.nil
  intro K hK
  rw [if_pos (wanted_none (by rfl))]
  (go_simp; obtain ⟨W2, h2⟩ : ∃ W, W = (w1.alloc (.cells #[.int .u64 x] 23)).drew := ⟨_, rfl⟩; rw [← h2]; have B2 : Hid (Below w1.heap.size w1 W2) := (by rw [h2]; exact (below_alloc _ _).drew); have C2 : Hid (W2.cell? ⟨w1.heap.size, 0, none⟩ = some (.int .u64 x)) := (by rw [h2]; show (w1.alloc _).cell? _ = _; rw [cell_of_row (alloc_block _ _ _ _)]; rfl); clear h2)
  refine hK.out _ _ ?_ (fun hHeld => ?_)
  · (try dsimp only)
    all_goals trivial
  clear hK K
  (try simp only [Act.put, List.setIfInBounds_toArray, List.set_cons_zero, List.set_cons_succ])
  refine wpAnyH_ready (rs := [3]) (by decide +kernel) (by simp) ?_
  refine AllReadyH.cons (o := _) rfl ?_ AllReadyH.nil
  intro K hK
  rw [if_pos (wanted_none (by rfl))]
  (go_simp; go_at_call 36; refine (key1_any 106 x w1.heap.size W2 HX.out C2.out).mono ?_; rintro e W3 ⟨kv, rfl, hk, hb⟩; have B3 : Hid (Below w1.heap.size w1 W3) := onward hb B2.out; have K3 := Lib.hid hk; clear hk hb)
  refine hK.out _ _ ?_ (fun hHeld => ?_)
  · (try dsimp only)
    all_goals trivial
  clear hK K
  (try simp only [Act.put, List.setIfInBounds_toArray, List.set_cons_zero, List.set_cons_succ])
  refine wpAnyH_ready (rs := [7]) (by decide +kernel) (by simp) ?_
  refine AllReadyH.cons (o := _) rfl ?_ AllReadyH.nil
  intro K hK
  rw [if_pos (wanted_none (by rfl))]
  (go_simp; refine (get_any W3 (HM.out.below (onward B3.out B1.out)) kv (106 :: big8 x) K3.out (by simp [big8])).mono ?_; rintro e W4 ⟨hb, hm⟩; rw [HG.out] at hm; have he : e = .returned (.tuple #[.slice none 0 0, .bool false, .int .i64 0]) := hm; subst he; have B4 : Hid (Below w1.heap.size w1 W4) := onward hb B3.out; clear hb hm)
  refine hK.out _ _ ?_ (fun hHeld => ?_)
  · (try dsimp only)
    all_goals trivial
  clear hK K
  (try simp only [Act.put, List.setIfInBounds_toArray, List.set_cons_zero, List.set_cons_succ])
  refine Plan.start (plan := [8, 9, 10, 11, 12, 13, 14]) (fuel := 0) (by decide +kernel) (by assumption) ?_
  refine Plan.free (i := 8) (ds := some 9) (v := ?_) rfl rfl rfl ?_ (fun _ _ _ h => h) ?_
  rotate_left
  · (intro w hSw; (try dsimp only at hSw); go_simp; first | done | with_reducible rfl)
  (try simp only [Act.put, List.setIfInBounds_toArray, List.set_cons_zero, List.set_cons_succ])
  refine Plan.free (i := 9) (ds := some 18) (v := ?_) rfl rfl rfl ?_ (fun _ _ _ h => h) ?_
  rotate_left
  · (intro w hSw; (try dsimp only at hSw); go_simp; first | done | with_reducible rfl)
  (try simp only [Act.put, List.setIfInBounds_toArray, List.set_cons_zero, List.set_cons_succ])
  refine Plan.free (i := 10) (ds := some 19) (v := ?_) rfl rfl rfl ?_ (fun _ _ _ h => h) ?_
  rotate_left
  · (intro w hSw; (try dsimp only at hSw); go_simp; first | done | with_reducible rfl)
  (try simp only [Act.put, List.setIfInBounds_toArray, List.set_cons_zero, List.set_cons_succ])
  refine Plan.free (i := 11) (ds := some 20) (v := ?_) rfl rfl rfl ?_ (fun _ _ _ h => h) ?_
  rotate_left
  · (intro w hSw; (try dsimp only at hSw); go_simp; first | done | with_reducible rfl)
  (try simp only [Act.put, List.setIfInBounds_toArray, List.set_cons_zero, List.set_cons_succ])
  refine Plan.free (i := 12) (ds := some 6) (v := ?_) rfl rfl rfl ?_ (fun _ _ _ h => h) ?_
  rotate_left
  · (intro w hSw; (try dsimp only at hSw); go_simp; first | done | with_reducible rfl)
  (try simp only [Act.put, List.setIfInBounds_toArray, List.set_cons_zero, List.set_cons_succ])
  refine Plan.free (i := 13) (ds := some 7) (v := ?_) rfl rfl rfl ?_ (fun _ _ _ h => h) ?_
  rotate_left
  · (intro w hSw; (try dsimp only at hSw); go_simp; first | done | with_reducible rfl)
  (try simp only [Act.put, List.setIfInBounds_toArray, List.set_cons_zero, List.set_cons_succ])
  refine Plan.free (i := 14) (ds := some 8) (v := ?_) rfl rfl rfl ?_ (fun _ _ _ h => h) ?_
  rotate_left
  · (intro w hSw; (try dsimp only at hSw); go_simp; first | done | with_reducible rfl)
  (try simp only [Act.put, List.setIfInBounds_toArray, List.set_cons_zero, List.set_cons_succ])
  refine Plan.stop (fun hHeld => ?_)
  refine wpAnyH_done (by decide +kernel) ?_ _
  have BX := stays_block B4.out HB1.out
  have hf0 : W4.frozen? ⟨w.heap.size, 0, none⟩ = false := free_of_row BX
  have hf1 : W4.frozen? ⟨w.heap.size, 1, none⟩ = false := free_of_row BX
  have hf2 : W4.frozen? ⟨w.heap.size, 2, none⟩ = false := free_of_row BX
  have hf3 : W4.frozen? ⟨w.heap.size, 3, none⟩ = false := free_of_row BX
  have hc0 : W4.cell? ⟨w.heap.size, 0, none⟩ = some (.int .u64 0) := by rw [cell_of_row BX]; rfl
  have hc1 : W4.cell? ⟨w.heap.size, 1, none⟩ = some (.int .i64 0) := by rw [cell_of_row BX]; rfl
  have hc2 : W4.cell? ⟨w.heap.size, 2, none⟩ = some (.int .u32 0) := by rw [cell_of_row BX]; rfl
  have hc3 : W4.cell? ⟨w.heap.size, 3, none⟩ = some (.slice none 0 0) := by rw [cell_of_row BX]; rfl
  clear BX
  go_wp2_with fail
  have B5 : Hid (Below w1.heap.size w1 W4) := B4.out
  obtain ⟨W5, h5⟩ : ∃ W, W = (((W4.setCell ⟨w.heap.size, 0, none⟩ (.int .u64 0)).setCell ⟨w.heap.size, 1, none⟩ (.int .i64 0)).setCell ⟨w.heap.size, 2, none⟩ (.int .u32 0)).setCell ⟨w.heap.size, 3, none⟩ (.slice none 0 0) := ⟨_, rfl⟩
  rw [← h5]
  have BZ : Below w.heap.size w W5 := by
    rw [h5]
    exact (((((onward B5.out B1.out).setCell (Nat.le_refl _) _).setCell (Nat.le_refl _) _).setCell (Nat.le_refl _) _).setCell (Nat.le_refl _) _)
  have OZ : W5.heap[w.heap.size]? = some (.cells #[.int .u64 0, .int .i64 0, .int .u32 0, .slice none 0 0] 49 (0, 0)) := by
    rw [h5]
    exact box4_set (stays_block B5.out HB1.out)
  clear h5 hf0 hf1 hf2 hf3 hc0 hc1 hc2 hc3
  have hc0 : W5.cell? ⟨w.heap.size, 0, none⟩ = some (.int .u64 0) := by rw [cell_of_row OZ]; rfl
  have hc1 : W5.cell? ⟨w.heap.size, 1, none⟩ = some (.int .i64 0) := by rw [cell_of_row OZ]; rfl
  have hc2 : W5.cell? ⟨w.heap.size, 2, none⟩ = some (.int .u32 0) := by rw [cell_of_row OZ]; rfl
  have hc3 : W5.cell? ⟨w.heap.size, 3, none⟩ = some (.slice none 0 0) := by rw [cell_of_row OZ]; rfl
  have hld : (loadVar 49 ⟨w.heap.size, 0, none⟩).run Tryz.prog W5 = .ok (.agg #[.int .u64 0, .int .i64 0, .int .u32 0, .slice none 0 0]) W5 := by go_simp
  (try simp only [Exit.inBlock, Exit.then])
  refine bodyPost_ret (v := .tuple #[.agg #[.int .u64 0, .int .i64 0, .int .u32 0, .slice none 0 0], .int .i64 4]) ?_ rfl ⟨rfl, BZ⟩
  rw [results_cell_tmp rfl]
  simp [asAddr, Result.andThen, hld]
end Go.Proofs.YtecbnhmnhcpcmaaGreatDoor
/-! The walks of the reference's numbers of 128 bits: Of. -/
namespace Go.Proofs.YtecbnhmnhcpcmaaGreatDoor
open Go.RowKit Go.WideMaps Go.Maps
set_option linter.unusedVariables false
set_option linter.unusedSimpArgs false
set_option maxRecDepth 100000
theorem results_cell1 {fn : Func} {p : Tmp} {ty : TypeId} (h : fn.results = #[.cell p ty]) (tmps : Array Value) (P : Program) (w : World) :
    (results fn tmps).run P w = ((asAddr (tmps.getD p undef)).run P w).andThen fun a w₁ => (loadVar ty a).run P w₁ := by
  simp only [results, h]
  simp [Sem.run_bind, Result.andThen]
/-- four cells in a block of their own -/
theorem big_load {W : World} {g : Nat} {x0 x1 x2 x3 : Nat} {T : Nat} (h : W.heap[g]? = some (.cells #[.int .u64 x0, .int .u64 x1, .int .u64 x2, .int .u64 x3] T (0, 0))) : (loadVar 115 ⟨g, 0, none⟩).run Tryz.prog W = .ok (.agg #[.int .u64 x0, .int .u64 x1, .int .u64 x2, .int .u64 x3]) W := by
  have hc0 : W.cell? ⟨g, 0, none⟩ = some (.int .u64 x0) := by rw [cell_of_row h]; rfl
  have hc1 : W.cell? ⟨g, 1, none⟩ = some (.int .u64 x1) := by rw [cell_of_row h]; rfl
  have hc2 : W.cell? ⟨g, 2, none⟩ = some (.int .u64 x2) := by rw [cell_of_row h]; rfl
  have hc3 : W.cell? ⟨g, 3, none⟩ = some (.int .u64 x3) := by rw [cell_of_row h]; rfl
  go_simp
theorem two_allocs {w : World} {A B : Array Value} {S T : Nat} : ((w.alloc (.cells A S)).alloc (.cells B T)).heap[w.heap.size]? = some (.cells A S (0, 0)) ∧ Below w.heap.size w ((w.alloc (.cells A S)).alloc (.cells B T)) :=
  ⟨stays_block (below_alloc _ _) (alloc_block _ _ _ _), onward (below_alloc _ _) (below_alloc _ _)⟩
set_option maxHeartbeats 1000000 in
theorem bof_any (a : Int) (w : World) (ha : Acct.inInt a) : Calls Tryz.prog 59 #[.int .i64 a] w fun e w' => e = .returned (.agg (bgOf a).cells) ∧ Below w.heap.size w w' := by
  have hw : IntKind.u64.wrap a = ((toU a : Nat) : Int) := by
    unfold Acct.inInt at ha
    unfold toU
    have : IntKind.u64.wrap a = a % 18446744073709551616 := rfl
    rw [this]
    omega
  have HB : Hid (bgOf a = ⟨toU a % 4294967296, toU a / 4294967296, if a < 0 then 4294967295 else 0, if a < 0 then 4294967295 else 0⟩) := rfl
  clear ha
  generalize bgOf a = bb at *
  generalize toU a = u at *
  by_cases hneg : a < 0
  · have d : decide (a < 0) = true := decide_eq_true hneg
    have HQ := HB.out
    rw [if_pos hneg] at HQ
    subst HQ
    clear HB hneg
    go_enter Tryz.func59, Tryz.ntmps59
    go_wp2_with fail
    obtain ⟨h1, h2⟩ := two_allocs (w := w) (A := #[.int .u64 ((u % 4294967296 : Nat) : Int), .int .u64 ((u / 4294967296 : Nat) : Int), .int .u64 ((4294967295 : Nat) : Int), .int .u64 ((4294967295 : Nat) : Int)]) (B := #[.int .u64 ((u % 4294967296 : Nat) : Int), .int .u64 ((u / 4294967296 : Nat) : Int), .int .u64 ((4294967295 : Nat) : Int), .int .u64 ((4294967295 : Nat) : Int)]) (S := 115) (T := 115)
    (try simp only [Exit.inBlock, Exit.then])
    refine bodyPost_ret (v := .agg #[.int .u64 ((u % 4294967296 : Nat) : Int), .int .u64 ((u / 4294967296 : Nat) : Int), .int .u64 ((4294967295 : Nat) : Int), .int .u64 ((4294967295 : Nat) : Int)]) ?_ rfl ⟨rfl, h2⟩
    rw [results_cell1 rfl]
    have hld := big_load h1
    exact hld
  · have d : decide (a < 0) = false := decide_eq_false hneg
    have HQ := HB.out
    rw [if_neg hneg] at HQ
    subst HQ
    clear HB hneg
    go_enter Tryz.func59, Tryz.ntmps59
    go_wp2_with fail
    obtain ⟨h1, h2⟩ := two_allocs (w := w) (A := #[.int .u64 ((u % 4294967296 : Nat) : Int), .int .u64 ((u / 4294967296 : Nat) : Int), .int .u64 ((0 : Nat) : Int), .int .u64 ((0 : Nat) : Int)]) (B := #[.int .u64 ((u % 4294967296 : Nat) : Int), .int .u64 ((u / 4294967296 : Nat) : Int), .int .u64 ((0 : Nat) : Int), .int .u64 ((0 : Nat) : Int)]) (S := 115) (T := 115)
    (try simp only [Exit.inBlock, Exit.then])
    refine bodyPost_ret (v := .agg #[.int .u64 ((u % 4294967296 : Nat) : Int), .int .u64 ((u / 4294967296 : Nat) : Int), .int .u64 ((0 : Nat) : Int), .int .u64 ((0 : Nat) : Int)]) ?_ rfl ⟨rfl, h2⟩
    rw [results_cell1 rfl]
    have hld := big_load h1
    exact hld
end Go.Proofs.YtecbnhmnhcpcmaaGreatDoor
