/- The walks of entry.GetPack and its closure: a pack is read back. (Printed by gen_pab.py.) Scans of a store whose keys are known: plain. The walks of packs.account, packs.Total and packs.Draw. -/
import Derived.Test.YtcaihncnmjegoaaGreatDoorPkPacksAl11
import Derived.Test.YtcaihncnmjegoaaGreatDoorPkPacksAl10
import Derived.Test.YtcaihncnmjegoaaGreatDoorPkPacksAl6
import Derived.Laws.AppendOwn
import Derived.Laws.OwnMore
import Derived.WalkKit
import Derived.WalkLawsBesides
/-! The walks of entry.GetPack and its closure: a pack is read back. (Printed by gen_pab.py.) -/
namespace Go.Proofs.YtcaihncnmjegoaaGreatDoor
open Go.RowKit Go.WideMaps Go.Maps
set_option linter.unusedVariables false
set_option linter.unusedSimpArgs false
set_option maxRecDepth 100000
theorem rd_two {w : World} {rp gp T : Nat} {bs : Bs} {x0 x1 u0 u1 : Value} (h : RdS w rp bs) (ho : w.heap[gp]? = some (.cells #[x0, x1] T (0, 0))) (hT : T ≠ 5) (hne : gp ≠ rp) : RdS ((w.setCell ⟨gp, 0, none⟩ u0).setCell ⟨gp, 1, none⟩ u1) rp bs := by
  have o1 := set_cells (k := 0) (u := u0) ho
  exact rd_other (rd_other h ho hT hne) o1 hT hne
theorem box2_set {w : World} {p : Nat} {x0 x1 u0 u1 : Value} {T : Nat} (h : w.heap[p]? = some (.cells #[x0, x1] T (0, 0))) : ((w.setCell ⟨p, 0, none⟩ u0).setCell ⟨p, 1, none⟩ u1).heap[p]? = some (.cells #[u0, u1] T (0, 0)) := by
  have o1 := set_cells (k := 0) (u := u0) h
  exact set_cells (k := 1) (u := u1) o1
theorem pack_load {W : World} {g : Nat} {x0 : Nat} {x1 : Int} (h : W.heap[g]? = some (.cells #[.int .u32 x0, .int .i64 x1] 32 (0, 0))) : (loadVar 32 ⟨g, 0, none⟩).run Tryz.prog W = .ok (.agg #[.int .u32 x0, .int .i64 x1]) W := by
  have hc0 : W.cell? ⟨g, 0, none⟩ = some (.int .u32 x0) := by rw [cell_of_row h]; rfl
  have hc1 : W.cell? ⟨g, 1, none⟩ = some (.int .i64 x1) := by rw [cell_of_row h]; rfl
  go_simp
theorem pack_zero {W : World} {g : Nat} {x0 x1 : Value} (hz : W.heap[g]? = some (.cells #[x0, x1] 32 (0, 0))) : W.frozen? ⟨g, 0, none⟩ = false ∧ W.frozen? ⟨g, 1, none⟩ = false ∧ W.cell? ⟨g, 0, none⟩ = some x0 ∧ W.cell? ⟨g, 1, none⟩ = some x1 :=
  ⟨free_of_row hz, free_of_row hz, by rw [cell_of_row hz]; rfl, by rw [cell_of_row hz]; rfl⟩
theorem rd_lt {w : World} {rp : Nat} {bs : Bs} (h : RdS w rp bs) : rp < w.heap.size := by obtain ⟨a, c, h1, -⟩ := h; exact lt_of_block h1
set_option maxHeartbeats 2000000 in
theorem gpack1_any {rp id : Nat} {ex : Int} (w : World) (hR : RdS w rp (packL id ex)) (hid : id < 4294967296) (hex : Acct.inInt ex) :
    Calls Tryz.prog 43 #[.agg #[.pointer (some ⟨rp, 0, none⟩)]] w fun e w' => e = .returned (.agg #[.int .u32 id, .int .i64 ex]) ∧ RdS w' rp [] ∧ w.grownBy w' (some rp) := by
  have hrp := rd_lt hR
  obtain ⟨w1, hw1⟩ : ∃ W, W = (w.alloc (.cells #[.pointer (some ⟨rp, 0, none⟩)] 101)).alloc (.cells #[.int .u32 0, .int .i64 0] 32) := ⟨_, rfl⟩
  obtain ⟨h0, hb⟩ := two_allocs (w := w) (A := #[.pointer (some ⟨rp, 0, none⟩)]) (B := #[.int .u32 0, .int .i64 0]) (S := 101) (T := 32)
  have h1 := alloc_block (w.alloc (.cells #[.pointer (some ⟨rp, 0, none⟩)] 101)) #[.int .u32 0, .int .i64 0] 32 (0, 0)
  have es : (w.alloc (.cells #[.pointer (some ⟨rp, 0, none⟩)] 101)).heap.size = w.heap.size + 1 := by simp
  rw [es] at h1
  rw [← hw1] at h0 h1 hb
  have R1 : Hid (RdS w1 rp (big8 id ++ big8 (toU ex))) := hR.below hb
  have O0 := Lib.hid h0
  have O1 := Lib.hid h1
  have B1 := Lib.hid hb
  have HRP : Hid (rp < w.heap.size) := hrp
  have SZ : Hid (w.heap.size + 1 < w1.heap.size) := lt_of_block h1
  have IX := Lib.hid (fun (W : World) (h : RdS W rp (big8 id ++ big8 (toU ex))) => small_at W h hid)
  have JX := Lib.hid (fun (W : World) (h : RdS W rp (big8 (toU ex))) => int_at (r := []) W (by rw [List.append_nil]; exact h) hex)
  clear hR h0 h1 hb hrp es
  go_enter Tryz.func43, Tryz.ntmps43
  go_upto_region 1 with fail
  rw [← hw1]
  clear hw1
  have KX : Hid (∀ W, w1.grownBy W (some rp) → W.cell? ⟨w.heap.size, 0, none⟩ = some (.pointer (some ⟨rp, 0, none⟩))) := fun W hg => by
    rw [cell_of_row (grown_block hg O0.out (by have := HRP.out; omega))]
    rfl
  refine UpTo.start (z := 6) (C := (fun W => W.cell? ⟨w.heap.size, 0, none⟩ = some (.pointer (some ⟨rp, 0, none⟩)))) (by kernel_rfl) ?_ (fun hHeld => ?_)
  · (try dsimp only)
    exact KX.out _ (grown_of_below (Below.refl _ _).drew)
  refine PlanZ.start (plan := [0, 2, 3]) (fuel := 4) (by decide +kernel) (by assumption) ?_
  refine PlanZ.free (i := 0) (ds := some 3) (v := ?_) rfl rfl rfl ?_ (fun _ _ _ h => h) ?_
  rotate_left
  · (intro w hSw; (try dsimp only at hSw); go_simp; first | done | with_reducible rfl)
  (try simp only [Act.put, List.setIfInBounds_toArray, List.set_cons_zero, List.set_cons_succ])
  refine PlanZ.free (i := 2) (ds := some 5) (v := ?_) rfl rfl rfl ?_ (fun _ _ _ h => h) ?_
  rotate_left
  · (intro w hSw; (try dsimp only at hSw); go_simp; first | done | with_reducible rfl)
  (try simp only [Act.put, List.setIfInBounds_toArray, List.set_cons_zero, List.set_cons_succ])
  refine PlanZ.free (i := 3) (ds := some 6) (v := ?_) rfl rfl rfl ?_ (fun _ _ _ h => h) ?_
  rotate_left
  · (intro w hSw; (try dsimp only at hSw); go_simp; first | done | with_reducible rfl)
  (try simp only [Act.put, List.setIfInBounds_toArray, List.set_cons_zero, List.set_cons_succ])
  refine PlanZ.stop (fun hHeld => ?_)
  refine UpTo.ready (rs := [1]) (by decide +kernel) (by simp) ?_
  refine AllZ.cons (o := _) rfl ?_ AllZ.nil
  intro K hK
  rw [if_pos (wanted_none (by rfl))]
  (go_simp; go_at_call 44; refine (IX.out _ (R1.out.below (Below.refl _ _).drew)).mono ?_; rintro e W1 ⟨rfl, hr, hg⟩; have RR1 := Lib.hid hr; have GG1 : Hid (w1.grownBy W1 (some rp)) := (grown_of_below (Below.refl _ _).drew).trans hg; clear hr hg)
  refine hK.out _ _ ?_ (fun hHeld => ?_)
  · (try dsimp only)
    exact KX.out _ GG1.out
  clear hK K
  (try simp only [Act.put, List.setIfInBounds_toArray, List.set_cons_zero, List.set_cons_succ])
  refine UpTo.ready (rs := [4]) (by decide +kernel) (by simp) ?_
  refine AllZ.cons (o := _) rfl ?_ AllZ.nil
  intro K hK
  rw [if_pos (wanted_none (by rfl))]
  (go_simp; go_at_call 45; refine (JX.out _ RR1.out).mono ?_; rintro e W4 ⟨rfl, hr, hg⟩; have RR4 := Lib.hid hr; have GG4 : Hid (w1.grownBy W4 (some rp)) := GG1.out.trans hg; clear hr hg)
  refine hK.out _ _ ?_ (fun hHeld => ?_)
  · (try dsimp only)
    exact KX.out _ GG4.out
  clear hK K
  (try simp only [Act.put, List.setIfInBounds_toArray, List.set_cons_zero, List.set_cons_succ])
  refine PlanZ.start (plan := [5]) (fuel := 1) (by decide +kernel) (by assumption) ?_
  refine PlanZ.free (i := 5) (ds := some 8) (v := ?_) rfl rfl rfl ?_ (fun _ _ _ h => h) ?_
  rotate_left
  · (intro w hSw; (try dsimp only at hSw); go_simp; first | done | with_reducible rfl)
  (try simp only [Act.put, List.setIfInBounds_toArray, List.set_cons_zero, List.set_cons_succ])
  refine PlanZ.stop (fun hHeld => ?_)
  refine UpTo.ready (rs := [6]) (by decide +kernel) (by simp) ?_
  refine AllZ.last (o := _) rfl ?_
  intro K hK
  rw [if_pos (wanted_none (by rfl))]
  (have OZ := grown_block GG4.out O1.out (by have := HRP.out; omega); obtain ⟨hf0, hf1, hz0, hz1⟩ := pack_zero OZ; have OZ4 := Lib.hid OZ; clear OZ; go_simp)
  refine hK.out _ _ ?_
  clear hK K
  (try simp only [Act.put, List.setIfInBounds_toArray, List.set_cons_zero, List.set_cons_succ])
  refine UpTo.done (by decide +kernel) ?_ _
  clear hf0 hf1 hz0 hz1
  have hne : w.heap.size + 1 ≠ rp := by have := HRP.out; omega
  obtain ⟨WF, hWF⟩ : ∃ W, W = ((W4.setCell ⟨w.heap.size + 1, 0, none⟩ (.int .u32 id)).setCell ⟨w.heap.size + 1, 1, none⟩ (.int .i64 ex)) := ⟨_, rfl⟩
  have FD : Hid (RdS WF rp []) := by rw [hWF]; exact rd_two RR4.out OZ4.out (by decide) hne
  have HWG : w.grownBy W4 (some rp) := (grown_of_below B1.out).trans GG4.out
  have FG : Hid (w.grownBy WF (some rp)) := by rw [hWF]; exact grown_new (grown_new HWG (Nat.le_succ _)) (Nat.le_succ _)
  have FB : WF.heap[w.heap.size + 1]? = some (.cells #[.int .u32 id, .int .i64 ex] 32 (0, 0)) := by rw [hWF]; exact box2_set OZ4.out
  have FL := Lib.hid (pack_load FB)
  clear hne HWG FB
  go_wp2_with fail
  rw [← hWF]
  clear hWF
  (try simp only [Exit.inBlock, Exit.then])
  refine bodyPost_ret (v := .agg #[.int .u32 id, .int .i64 ex]) ?_ rfl ⟨rfl, FD.out, FG.out⟩
  rw [results_cell1 rfl]
  exact FL.out
def PackRead (id : Nat) (ex : Int) (w : World) (e : Ending) (w' : World) : Prop := e = .returned (.tuple #[.agg #[.int .u32 id, .int .i64 ex], .int .i64 0]) ∧ Below w.heap.size w w'
set_option maxHeartbeats 1000000 in
theorem pall_any (id ex : Int) (w : World) : Calls Tryz.prog 46 #[.agg #[.int .u32 id, .int .i64 ex]] w fun e w' => e = .returned (.bool true) ∧ Below w.heap.size w w' := by
  go_enter Tryz.func46, Tryz.ntmps46
  go_wp2_with fail
  go_ret
  exact ⟨rfl, below_alloc _ _⟩
set_option maxHeartbeats 2000000 in
theorem packread_any {id : Nat} {ex : Int} (v : Value) (w : World) (hB : BytesAt 0 w v (packL id ex)) (hid : id < 4294967296) (hex : Acct.inInt ex) :
    Calls Tryz.prog 42 #[v, .func (.func 43) #[] #[], .func (.func 46) #[] #[]] w (PackRead id ex w) := by
  have hbytes := Lib.hid hB
  obtain ⟨va, vc, rfl⟩ := hB.form
  obtain ⟨w1, hw1⟩ : ∃ W, W = (w.alloc (.cells #[.int .u32 0, .int .i64 0] 32)).alloc (.cells #[.int .u32 0, .int .i64 0] 32) := ⟨_, rfl⟩
  obtain ⟨h0, hb⟩ := two_allocs (w := w) (A := #[.int .u32 0, .int .i64 0]) (B := #[.int .u32 0, .int .i64 0]) (S := 32) (T := 32)
  rw [← hw1] at h0 hb
  have O0 := Lib.hid h0
  have B1 := Lib.hid hb
  have NX := Lib.hid (wnew_any _ _ w1 (hB.below hb) (by simp [packL, big8]) (by simp [packL, big8]))
  clear hB h0 hb
  go_enter Tryz.func42, Tryz.ntmps42
  go_wp2_with fail
  rw [← hw1]
  clear hw1
  refine NX.out.mono ?_
  rintro e w2 ⟨rp, rfl, hr, hb, hrp⟩
  obtain ⟨w3, hw3⟩ : ∃ W, W = w2.alloc (.cells #[.pointer (some ⟨rp, 0, none⟩)] 101) := ⟨_, rfl⟩
  have hb3 : Below w2.heap.size w2 w3 := by rw [hw3]; exact below_alloc _ _
  have h3 : w3.heap[w2.heap.size]? = some (.cells #[.pointer (some ⟨rp, 0, none⟩)] 101 (0, 0)) := by rw [hw3]; exact alloc_block _ _ _ _
  have c3 : w3.cell? ⟨w2.heap.size, 0, none⟩ = some (.pointer (some ⟨rp, 0, none⟩)) := by rw [cell_of_row h3]; rfl
  have O3 := Lib.hid h3
  have Z3 := Lib.hid (stays_block hb3 (stays_block hb O0.out))
  have HZ : Hid (w.heap.size ≠ rp) := by have := lt_of_block O0.out; show _ ≠ _; omega
  have B3 : Hid (Below w.heap.size w w3) := onward (onward hb3 hb) B1.out
  have PX := Lib.hid (gpack1_any w3 (hr.below hb3) hid hex)
  have HRP : Hid (w.heap.size ≤ rp ∧ rp < w2.heap.size) := by
    have := B1.out.size
    exact ⟨by omega, rd_lt hr⟩
  clear hr hb hb3 h3 NX hrp
  go_wp2_with fail
  rw [← hw3]
  clear hw3
  refine PX.out.mono ?_
  rintro e w4 ⟨rfl, hr, hg⟩
  have B4 : Hid (Below w.heap.size w w4) := B3.out.trans (below_of_grown hg HRP.out.1 B3.out.size)
  have O4 := Lib.hid (grown_block hg O3.out (by have := HRP.out.2; omega))
  have Z4 := Lib.hid (grown_block hg Z3.out HZ.out)
  obtain ⟨w5, hw5⟩ : ∃ W, W = w4.alloc (.cells #[.int .u32 id, .int .i64 ex] 32) := ⟨_, rfl⟩
  have hb5 : Below w4.heap.size w4 w5 := by rw [hw5]; exact below_alloc _ _
  have h5 : w5.heap[w4.heap.size]? = some (.cells #[.int .u32 id, .int .i64 ex] 32 (0, 0)) := by rw [hw5]; exact alloc_block _ _ _ _
  have O5 := Lib.hid h5
  have Z5 := Lib.hid (stays_block hb5 Z4.out)
  have B5 : Hid (Below w.heap.size w w5) := onward hb5 B4.out
  have DX := Lib.hid (wdone_any w5 (hr.below hb5))
  have SX := Lib.hid (pall_any id ex w5)
  have c5 : w5.cell? ⟨w2.heap.size, 0, none⟩ = some (.pointer (some ⟨rp, 0, none⟩)) := by rw [cell_of_row (stays_block hb5 O4.out)]; rfl
  obtain ⟨-, -, e0, e1⟩ := pack_zero h5
  clear hr hg hb5 h5 PX c3 B3 O3
  go_upto_region 4 with fail
  rw [← hw5]
  clear hw5
  go_wp2_with fail
  refine DX.out.mono ?_
  rintro e w6 ⟨rfl, hw⟩
  have hw' := hw.symm
  subst hw'
  clear hw DX
  go_wp2_with fail
  refine SX.out.mono ?_
  rintro e w7 ⟨rfl, hb⟩
  have B7 : Hid (Below w.heap.size w w7) := onward hb B5.out
  have O7 := stays_block hb O5.out
  have OZ := stays_block hb Z5.out
  clear c5 e0 e1 hb SX
  obtain ⟨hf0, hf1, hg0, hg1⟩ := pack_zero OZ
  obtain ⟨-, -, hc0, hc1⟩ := pack_zero O7
  obtain ⟨WF, hWF⟩ : ∃ W, W = ((w7.setCell ⟨w.heap.size, 0, none⟩ (.int .u32 id)).setCell ⟨w.heap.size, 1, none⟩ (.int .i64 ex)) := ⟨_, rfl⟩
  have FB : Hid (Below w.heap.size w WF) := by rw [hWF]; exact (B7.out.setCell (Nat.le_refl _) _).setCell (Nat.le_refl _) _
  have FO : WF.heap[w.heap.size]? = some (.cells #[.int .u32 id, .int .i64 ex] 32 (0, 0)) := by rw [hWF]; exact box2_set OZ
  have FL := Lib.hid (pack_load FO)
  clear O7 OZ FO
  go_wp2_with fail
  rw [← hWF]
  clear hWF
  (try simp only [Exit.inBlock, Exit.then])
  refine bodyPost_ret (v := .tuple #[.agg #[.int .u32 id, .int .i64 ex], .int .i64 0]) ?_ rfl ⟨rfl, FB.out⟩
  rw [results_cell_tmp rfl]
  have hfl := FL.out
  simp [asAddr, Result.andThen, hfl]
set_option maxHeartbeats 2000000 in
theorem getpack_any {id : Nat} {ex : Int} (v : Value) (w : World) (hB : BytesAt 0 w v (packL id ex)) (hid : id < 4294967296) (hex : Acct.inInt ex) :
    Calls Tryz.prog 27 #[v] w (PackRead id ex w) := by
  obtain ⟨va, vc, rfl⟩ := hB.form
  obtain ⟨w1, hw1⟩ : ∃ W, W = w.alloc (.cells #[.int .u32 0, .int .i64 0] 32) := ⟨_, rfl⟩
  have hb1 : Below w.heap.size w w1 := by rw [hw1]; exact below_alloc _ _
  have O1 : Hid (w1.heap[w.heap.size]? = some (.cells #[.int .u32 0, .int .i64 0] 32 (0, 0))) := by rw [hw1]; exact alloc_block _ _ _ _
  have B1 := Lib.hid hb1
  have RX := Lib.hid (packread_any _ w1 (hB.below hb1) hid hex)
  clear hB hb1
  go_enter Tryz.func27, Tryz.ntmps27
  go_wp2_with fail
  rw [← hw1]
  clear hw1
  refine RX.out.mono ?_
  rintro e w2 ⟨rfl, hb⟩
  have hz := stays_block hb O1.out
  obtain ⟨f0, f1, g0, g1⟩ := pack_zero hz
  obtain ⟨WF, hWF⟩ : ∃ W, W = ((w2.setCell ⟨w.heap.size, 0, none⟩ (.int .u32 id)).setCell ⟨w.heap.size, 1, none⟩ (.int .i64 ex)) := ⟨_, rfl⟩
  have FB : Hid (Below w.heap.size w WF) := by rw [hWF]; exact ((onward hb B1.out).setCell (Nat.le_refl _) _).setCell (Nat.le_refl _) _
  have FO : WF.heap[w.heap.size]? = some (.cells #[.int .u32 id, .int .i64 ex] 32 (0, 0)) := by rw [hWF]; exact box2_set hz
  have FL := Lib.hid (pack_load FO)
  clear hb hz FO RX
  go_wp2_with fail
  rw [← hWF]
  clear hWF
  (try simp only [Exit.inBlock, Exit.then])
  refine bodyPost_ret (v := .tuple #[.agg #[.int .u32 id, .int .i64 ex], .int .i64 0]) ?_ rfl ⟨rfl, FB.out⟩
  rw [results_cell_tmp rfl]
  have hfl := FL.out
  simp [asAddr, Result.andThen, hfl]
end Go.Proofs.YtcaihncnmjegoaaGreatDoor

/-! Scans of a store whose keys are known: plain. -/
namespace Go.Proofs.YtcaihncnmjegoaaGreatDoor
open Go.RowKit Go.WideMaps Go.Maps
set_option linter.unusedVariables false
theorem unbig_cons (c : UInt8) (r : Bs) : unbig (c :: r) = c.toNat * 256 ^ r.length + unbig r := by
  have key : ∀ (l : Bs) (a : Nat), l.foldl (fun v c => v * 256 + c.toNat) a = a * 256 ^ l.length + unbig l := by
    intro l
    induction l with
    | nil => intro a; simp [unbig]
    | cons x r ih =>
      intro a
      have h2 : unbig (x :: r) = (0 * 256 + x.toNat) * 256 ^ r.length + unbig r := ih (0 * 256 + x.toNat)
      rw [List.foldl_cons, ih, h2, List.length_cons, Nat.pow_succ, Nat.add_mul, Nat.zero_mul, Nat.zero_add, Nat.add_assoc, Nat.mul_assoc, Nat.mul_comm 256]
  unfold unbig
  rw [List.foldl_cons, key, Nat.zero_mul, Nat.zero_add]
  rfl
theorem unbig_mono : ∀ (l m : Bs), l.length = m.length → l ≤ m → unbig l ≤ unbig m
  | [], [], _, _ => Nat.le_refl _
  | [], _ :: _, h, _ => by simp at h
  | _ :: _, [], h, _ => by simp at h
  | a :: r, b :: s, h, hl => by
    rw [unbig_cons, unbig_cons]
    have hlen : r.length = s.length := by simpa using h
    rw [List.cons_le_cons_iff] at hl
    rcases hl with hl | ⟨rfl, hl⟩
    · have h1 : a.toNat < b.toNat := hl
      have h2 := unbig_lt r
      rw [hlen] at h2 ⊢
      have h3 : (a.toNat + 1) * 256 ^ s.length ≤ b.toNat * 256 ^ s.length := Nat.mul_le_mul_right _ h1
      rw [Nat.add_mul, Nat.one_mul] at h3
      omega
    · rw [hlen]
      have := unbig_mono r s hlen hl
      omega
theorem big8_lt {x y : Nat} (h : x < y) (hy : y < 18446744073709551616) : big8 x < big8 y := by
  by_cases h1 : big8 x < big8 y
  · exact h1
  · have := unbig_mono (big8 y) (big8 x) rfl (List.not_lt.1 h1)
    rw [unbig_big x (by omega), unbig_big y hy] at this
    omega
theorem pre_lt : ∀ (p a b : Bs), a < b → p ++ a < p ++ b
  | [], _, _, h => h
  | x :: p, a, b, h => by
    rw [List.cons_append, List.cons_append, List.cons_lt_cons_iff]
    exact .inr ⟨rfl, pre_lt p a b h⟩
theorem pre_between : ∀ (p a b : Bs), Op.bytesLess a p = false → a ≤ b → p.isPrefixOf b = true → p.isPrefixOf a = true
  | [], a, b, _, _, _ => by cases a <;> rfl
  | x :: p, a, [], _, _, h => by simp at h
  | x :: p, [], y :: b, h, _, _ => by
    rw [jless_eq, decide_eq_false_iff_not] at h
    exact absurd (List.nil_lt_cons _ _) h
  | x :: p, z :: a, y :: b, h, hab, hp => by
    rw [jless_eq, decide_eq_false_iff_not, List.cons_lt_cons_iff] at h
    rw [List.cons_le_cons_iff] at hab
    rw [List.isPrefixOf_cons_cons, Bool.and_eq_true, beq_iff_eq] at hp ⊢
    obtain ⟨rfl, hp⟩ := hp
    have hzx : z = x := by
      rcases hab with h1 | ⟨h1, -⟩
      · exact absurd (.inl h1) h
      · exact h1
    subst hzx
    refine ⟨rfl, pre_between p a b ?_ ?_ hp⟩
    · rw [jless_eq, decide_eq_false_iff_not]
      exact fun h1 => h (.inr ⟨rfl, h1⟩)
    · rcases hab with h1 | ⟨-, h1⟩
      · exact absurd h1 (by exact fun h2 => absurd h2 (by simp))
      · exact h1
theorem pre_not : ∀ (p r : Bs), ¬ (p ++ r) < p
  | [], r => List.not_lt_nil _
  | x :: p, r => fun h => by
    rw [List.cons_append, List.cons_lt_cons_iff] at h
    rcases h with h | ⟨-, h⟩
    · exact absurd h (by simp)
    · exact pre_not p r h
theorem sorted_ext : ∀ (A B : List Bs), A.Pairwise (fun a b => a < b) → B.Pairwise (fun a b => a < b) → (∀ k, k ∈ A ↔ k ∈ B) → A = B
  | [], [], _, _, _ => rfl
  | [], b :: B, _, _, h => by have := (h b).2 (by simp); simp at this
  | a :: A, [], _, _, h => by have := (h a).1 (by simp); simp at this
  | a :: A, b :: B, hA, hB, h => by
    rw [List.pairwise_cons] at hA hB
    have hab : a = b := by
      rcases List.mem_cons.1 ((h a).1 (by simp)) with h1 | h1
      · exact h1
      · rcases List.mem_cons.1 ((h b).2 (by simp)) with h2 | h2
        · exact h2.symm
        · exact absurd (hA.1 b h2) (List.lt_asymm (hB.1 a h1))
    subst hab
    congr 1
    refine sorted_ext A B hA.2 hB.2 fun k => ⟨fun hk => ?_, fun hk => ?_⟩
    · rcases List.mem_cons.1 ((h k).1 (by simp [hk])) with h1 | h1
      · subst h1; exact absurd (hA.1 k hk) (List.lt_irrefl _)
      · exact h1
    · rcases List.mem_cons.1 ((h k).2 (by simp [hk])) with h1 | h1
      · subst h1; exact absurd (hB.1 k hk) (List.lt_irrefl _)
      · exact h1
theorem scan_is {D : DM} (hS : StrD D) (p : Bs) (K : List Bs) (hs : K.Pairwise (fun a b => a < b)) (hm : ∀ k, k ∈ K ↔ (p.isPrefixOf k = true ∧ gt D k ≠ none)) : scanL D p = K.map fun k => (k, at0 D k) := by
  have key : (keysR D p []).takeWhile (fun k => p.isPrefixOf k) = K := by
    have hin : ∀ a ∈ keysR D p [], Op.bytesLess a p = false := fun a ha => by
      have h1 : inR p [] a = true := (List.mem_filter.1 (List.mem_mergeSort.1 ha)).2
      unfold inR at h1
      rw [Bool.and_eq_true] at h1
      simpa using h1.1
    have hnd : (keysR D p []).Nodup := (List.mergeSort_perm _ _).nodup_iff.2 ((keys_nodup hS).sublist List.filter_sublist)
    rw [while_filter ((keysR_sorted D p []).imp_of_mem fun {a b} ha hb hab hP => pre_between p a b (hin a ha) hab hP)]
    refine sorted_ext _ _ ?_ hs fun k => ?_
    · have h1 := ((keysR_sorted D p []).and hnd).sublist (List.filter_sublist (p := fun k => p.isPrefixOf k))
      refine h1.imp fun {a b} h => ?_
      by_cases h2 : a < b
      · exact h2
      · exact absurd (List.le_antisymm h.1 (List.not_lt.1 h2)) h.2
    · rw [hm, List.mem_filter]
      unfold keysR
      rw [List.mem_mergeSort, List.mem_filter, mem_keys hS, has_gt]
      constructor
      · rintro ⟨⟨h1, -⟩, h2⟩
        exact ⟨h2, h1⟩
      · rintro ⟨h1, h2⟩
        refine ⟨⟨h2, ?_⟩, h1⟩
        unfold inR
        have : Op.bytesLess k p = false := by
          rw [jless_eq, decide_eq_false_iff_not]
          obtain ⟨r, rfl⟩ := List.isPrefixOf_iff_prefix.1 h1
          exact fun h3 => absurd h3 (pre_not p r)
        rw [this]
        rfl
  unfold scanL pairsR
  rw [List.takeWhile_map]
  have e : ((fun y : Bs × Bs => p.isPrefixOf y.1) ∘ fun k : Bs => (k, at0 D k)) = fun k => p.isPrefixOf k := rfl
  rw [e, key]
end Go.Proofs.YtcaihncnmjegoaaGreatDoor

/-! The walks of packs.account, packs.Total and packs.Draw. -/
namespace Go.Proofs.YtcaihncnmjegoaaGreatDoor
open Go.RowKit Go.Shelf Acct
set_option linter.unusedVariables false
set_option linter.unusedSimpArgs false
def wPack : ByteArray := ⟨#[112, 97, 99, 107]⟩
theorem lit2 (w : World) (x y : Int) (T : Nat) : IntsAt (w.alloc (.cells #[.int .i64 x, .int .i64 y] T)) (.slice (some ⟨w.heap.size, 0, none⟩) 2 2) [x, y] :=
  ⟨_, 2, rfl, fun i hi => ⟨w.heap.size, 0, rfl, by
    rw [Nat.zero_add, World.cell?_alloc_new]
    have : i = 0 ∨ i = 1 := by simp at hi; omega
    rcases this with rfl | rfl <;> rfl⟩⟩
set_option maxHeartbeats 1000000 in
theorem account_any (t id : Int) (w : World) (hP : Pow w) (ht : 0 ≤ t ∧ t < 4294967296) (hi : 0 ≤ id ∧ id < 4294967296) : Calls Tryz.prog 16 #[.int .u32 t, .int .u32 id] w fun e w' => e = .returned (.string (nameB wPack [t, id])) ∧ Below w.heap.size w w' := by
  have HP := Lib.hid hP
  clear hP
  go_enter Tryz.func16, Tryz.ntmps16
  go_wp2_with fail
  refine (name_any wPack _ [t, id] _ (pow_below HP.out ((Below.refl _ _).alloc (Nat.le_refl _) _)) (lit2 w t id 2) (by simp [inInt]; omega) (by simp) (by decide)).mono ?_
  rintro e w1 ⟨rfl, hb⟩
  have HB : Hid (Below w.heap.size w w1) := ((Below.refl _ _).alloc (Nat.le_refl _) _).trans (hb.mono (by simp))
  clear hb
  go_wp2
  go_ret
  exact ⟨rfl, HB.out⟩
/-- packs lie in memory: a number, when it ends, its units -/
def LeftsAt (w : World) (v : Value) (ls : List (Int × Int × Int)) : Prop := ∃ a c, v = .slice a ls.length c ∧ ∀ i, i < ls.length → ∃ b o, a = some ⟨b, o, none⟩ ∧ w.cell? ⟨b, o + i * 3, none⟩ = some (.int .u32 (ls.getD i (0, 0, 0)).1) ∧ w.cell? ⟨b, o + i * 3 + 1, none⟩ = some (.int .i64 (ls.getD i (0, 0, 0)).2.1) ∧ w.cell? ⟨b, o + i * 3 + 2, none⟩ = some (.int .i64 (ls.getD i (0, 0, 0)).2.2)
theorem LeftsAt.below {w w' : World} {v : Value} {ns : List (Int × Int × Int)} (h : LeftsAt w v ns) (hb : Below w.heap.size w w') : LeftsAt w' v ns := by
  obtain ⟨a, c, rfl, hc⟩ := h
  exact ⟨a, c, rfl, fun i hi => by
    obtain ⟨b, o, rfl, h1, h2, h3⟩ := hc i hi
    exact ⟨b, o, rfl, stays hb h1, stays hb h2, stays hb h3⟩⟩
/-- a part of a posting: its cells -/
def partC (p : ByteArray × Int) : List Value := [.string p.1, .int .i64 p.2]
def partsC (l : List (ByteArray × Int)) : List Value := l.flatMap partC
/-- what Draw takes of packs -/
def drawL (t : Int) : Int → List (Int × Int × Int) → List (ByteArray × Int)
  | _, [] => []
  | rest, x :: l => if 0 < min rest x.2.2 then (nameB wPack [t, x.1], -(min rest x.2.2)) :: drawL t (rest - min rest x.2.2) l else drawL t rest l
def drawR : Int → List (Int × Int × Int) → Int
  | rest, [] => rest
  | rest, x :: l => if 0 < min rest x.2.2 then drawR (rest - min rest x.2.2) l else drawR rest l
theorem infoPart : (Tryz.prog.info? 30).map (fun i => (i.zero, i.size, i.bytes)) = some (some (.agg #[.string ⟨#[]⟩, .int .i64 0]), 2, 24) := by kernel_rfl
set_option maxHeartbeats 1000000 in
theorem draw_any (t units : Int) (v : Value) (ls : List (Int × Int × Int)) (w : World) (hP : Pow w) (hL : LeftsAt w v ls) (ht : 0 ≤ t ∧ t < 4294967296) (hls : ∀ x ∈ ls, 0 ≤ x.1 ∧ x.1 < 4294967296) (hu : inInt units) (hll : ls.length ≤ 1000000) :
    Calls Tryz.prog 9 #[.int .u32 t, v, .int .i64 units] w fun e w' => ∃ pv, e = .returned (.tuple #[pv, .int .i64 (drawR (max 0 units) ls)]) ∧ Below w.heap.size w w' ∧ w'.ownsRow w.heap.size 30 2 pv (drawL t (max 0 units) ls).length (partsC (drawL t (max 0 units) ls)) := by
  have HP := Lib.hid hP
  obtain ⟨a, c, rfl, hc⟩ := hL
  have HC := Lib.hid hc
  clear hP hc
  go_enter Tryz.func9, Tryz.ntmps9
  go_wp2_with fail
  obtain ⟨i0, hi, hz0, hz1, hz2⟩ := info_parts infoPart
  go_loopw [8, 9, 17] (fun pv r i wr => ∃ (k : Nat) (R : Int) (done : List (ByteArray × Int)), k ≤ ls.length ∧ i = .int .i64 k ∧ r = .int .i64 R ∧ 0 ≤ R ∧ R ≤ 9223372036854775807 ∧ Below w.heap.size w wr ∧ wr.ownsRow w.heap.size 30 2 pv done.length (partsC done) ∧ done.length ≤ k ∧
      drawL t (max 0 units) ls = done ++ drawL t R (ls.drop k) ∧ drawR (max 0 units) ls = drawR R (ls.drop k)) (fun _ _ i _ => ls.length - (intOf i).toNat)
  case atStart => exact ⟨0, max 0 units, [], by omega, rfl, rfl, by omega, by have := hu.2; omega, Below.refl _ _, World.ownsRow_nil _ _ _ _, by simp, by simp, by simp⟩
  case round =>
    obtain ⟨k, R, done, hk, rfl, rfl, hR0, hR1, hbr, hown, hdk, hD, hDR⟩ := hrel
    have BR := Lib.hid hbr
    have HO := Lib.hid hown
    have HD := Lib.hid hD
    have HDR := Lib.hid hDR
    clear hbr hown hD hDR
    by_cases hlt : k < ls.length
    · obtain ⟨b, o, rfl, h1, h2, h3⟩ := HC.out k hlt
      replace h1 := stays BR.out h1
      replace h2 := stays BR.out h2
      replace h3 := stays BR.out h3
      have hx := hls _ (List.getElem_mem hlt)
      have HX : Hid (ls.drop k = ls[k] :: ls.drop (k + 1)) := List.drop_eq_getElem_cons hlt
      rw [getD_at _ _ _ hlt] at h1 h2 h3
      obtain ⟨x, hxx⟩ : ∃ x, ls[k] = x := ⟨_, rfl⟩
      rw [hxx] at h1 h2 h3 HX hx
      clear hxx
      obtain ⟨id, ex, un⟩ := x
      simp only at h1 h2 h3 hx
      by_cases hm : 0 < min R un
      · go_wp2_with fail
        refine (account_any t id _ (pow_below HP.out (onward ((Below.refl _ _).alloc (Nat.le_refl _) _) BR.out)) ht hx).mono ?_
        rintro e w2 ⟨rfl, hb⟩
        have B2 : Hid (Below w.heap.size w w2) := onward ((Below.refl _ _).alloc (Nat.le_refl _) _ |>.trans (hb.mono (by simp))) BR.out
        have O2 := Lib.hid (ownsRow_below (HO.out.alloc _) hb)
        clear hb h1 h2 h3 BR HO HC
        go_wp2_with (at_builtin; refine wpList_append_own _ rfl _ _ 26 rfl w.heap.size 30 i0 _ 2 24 Tryz.underlying26 hi hz0 hz1 hz2 rfl (by decide) _ _ _ rfl (O2.out.alloc _) ⟨w2.heap.size, 0, none⟩ 1 1 [.string (nameB wPack [t, id]), .int .i64 (-(min R un))] rfl rfl (new_cells _ _ _) (one2 _ _ _) (by unfold maxLen; omega) (by omega) (by have := B2.out.size; simp; omega) ?_)
        intro v' w3 hown3 hgrow3 _
        have B3 := Lib.hid (owned_below (O2.out.alloc _) (B2.out.alloc B2.out.size _) hgrow3)
        have HX' := HX.out
        have HA := Lib.hid (show drawL t R (ls.drop k) = (nameB wPack [t, id], -(min R un)) :: drawL t (R - min R un) (ls.drop (k + 1)) from by rw [HX', drawL, if_pos hm])
        have HAR := Lib.hid (show drawR R (ls.drop k) = drawR (R - min R un) (ls.drop (k + 1)) from by rw [HX', drawR, if_pos hm])
        have O3 : Hid (w3.ownsRow w.heap.size 30 2 v' (done ++ [(nameB wPack [t, id], -(min R un))]).length (partsC (done ++ [(nameB wPack [t, id], -(min R un))]))) := by
          unfold Hid partsC
          rw [List.flatMap_append, List.length_append]
          exact hown3
        clear hown3 hgrow3 O2 B2 HX HX'
        go_wp2
        go_roundw
        case rel => exact ⟨k + 1, R - min R un, _, by omega, by go_num, rfl, by omega, by omega, B3.out, O3.out, by simp; omega, by rw [HD.out, HA.out, List.append_assoc]; rfl, by rw [HDR.out, HAR.out]⟩
        case measure => simp [intOf]; omega
      · have HX' := HX.out
        have HA := Lib.hid (show drawL t R (ls.drop k) = drawL t R (ls.drop (k + 1)) from by rw [HX', drawL, if_neg hm])
        have HAR := Lib.hid (show drawR R (ls.drop k) = drawR R (ls.drop (k + 1)) from by rw [HX', drawR, if_neg hm])
        clear HX HX'
        go_wp2
        go_roundw
        case rel => exact ⟨k + 1, R, done, by omega, by go_num, rfl, by omega, by omega, onward ((Below.refl _ _).alloc (Nat.le_refl _) _) BR.out, HO.out.alloc _, by omega, by rw [HD.out, HA.out], by rw [HDR.out, HAR.out]⟩
        case measure => simp [intOf]; omega
    · obtain rfl : k = ls.length := by omega
      have HZ : Hid (drawL t (max 0 units) ls = done ∧ drawR (max 0 units) ls = R) := by
        have h1 := HD.out
        have h2 := HDR.out
        rw [List.drop_length] at h1 h2
        exact ⟨by rw [h1]; simp [drawL], by rw [h2]; rfl⟩
      go_wp2
      go_ret2
      refine ⟨_, by rw [HZ.out.2]; rfl, BR.out, by rw [HZ.out.1]; exact HO.out⟩
end Go.Proofs.YtcaihncnmjegoaaGreatDoor

