/- The walk of entry.GetPosting's closure: a posting is read back. (Printed by gen_jwf.py.) -/
import Derived.Test.YtecbnhmnhcpcmaaGreatDoorPkJournalPlays40
import Derived.Test.YtecbnhmnhcpcmaaGreatDoorPkJournalPlays38
import Derived.Deep.Cut
import Derived.Deep.CutRange
/-! The walk of entry.GetPosting's closure: a posting is read back. (Printed by gen_jwf.py.) -/
namespace Go.Proofs.YtecbnhmnhcpcmaaGreatDoor
open Go.RowKit Go.WideMaps Go.Maps
set_option linter.unusedVariables false
set_option linter.unusedSimpArgs false
set_option maxRecDepth 100000
theorem grown_of_below {w w' : World} {r : Option Nat} (hb : Below w.heap.size w w') : w.grownBy w' r := ⟨hb.os, hb.tape, hb.output, hb.size, fun k hk _ => hb.block k hk⟩
theorem grown_block {w w' : World} {rp k : Nat} {ob : Obj} (hg : w.grownBy w' (some rp)) (h : w.heap[k]? = some ob) (hne : k ≠ rp) : w'.heap[k]? = some ob := (hg.block k (lt_of_block h) (fun e => hne (by injection e))).trans h
theorem grown_new {w w' : World} {rp gp k : Nat} {u : Value} (h : w.grownBy w' (some rp)) (hg : w.heap.size ≤ gp) : w.grownBy (w'.setCell ⟨gp, k, none⟩ u) (some rp) := by
  have k2 := Kept.setCell (S := fun k => k = gp) w' ⟨gp, k, none⟩ u rfl
  refine ⟨k2.os.trans h.os, k2.tape.trans h.tape, k2.output.trans h.output, Nat.le_trans h.size k2.size, fun i hi hne => ?_⟩
  rw [k2.block i (Nat.lt_of_lt_of_le hi h.size) (by omega)]
  exact h.block i hi hne
theorem rd_stp {w w' : World} {rp : Nat} {bs : Bs} (h : RdS w rp bs) (hs : Stp 0 w w') (hr : w'.heap[rp]? = w.heap[rp]?) : RdS w' rp bs := by
  obtain ⟨a, c, h1, h2, h3, h4⟩ := h
  exact ⟨a, c, hr.trans h1, h2.step hs, h3, h4⟩
theorem rd_other {w : World} {rp gp k T : Nat} {bs : Bs} {u : Value} {cs : Array Value} (h : RdS w rp bs) (ho : w.heap[gp]? = some (.cells cs T (0, 0))) (hT : T ≠ 5) (hne : gp ≠ rp) : RdS (w.setCell ⟨gp, k, none⟩ u) rp bs := by
  have k2 := Kept.setCell (S := fun k => k = gp) w ⟨gp, k, none⟩ u rfl
  have hlt : rp < w.heap.size := by obtain ⟨a, c, h1, -⟩ := h; exact lt_of_block h1
  refine rd_stp h (fun j hj hor => k2.block j hj fun e => ?_) (k2.block rp hlt (Ne.symm hne))
  rcases hor with h | ⟨cs', fr, h⟩
  · omega
  · rw [e, ho] at h
    injection h with h
    injection h with _ h _
    exact hT h
theorem rd_four {w : World} {rp gp T : Nat} {bs : Bs} {x0 x1 x2 x3 u0 u1 u2 u3 : Value} (h : RdS w rp bs) (ho : w.heap[gp]? = some (.cells #[x0, x1, x2, x3] T (0, 0))) (hT : T ≠ 5) (hne : gp ≠ rp) : RdS ((((w.setCell ⟨gp, 0, none⟩ u0).setCell ⟨gp, 1, none⟩ u1).setCell ⟨gp, 2, none⟩ u2).setCell ⟨gp, 3, none⟩ u3) rp bs := by
  have o1 := set_cells (k := 0) (u := u0) ho
  have o2 := set_cells (k := 1) (u := u1) o1
  have o3 := set_cells (k := 2) (u := u2) o2
  exact rd_other (rd_other (rd_other (rd_other h ho hT hne) o1 hT hne) o2 hT hne) o3 hT hne
theorem rd_grown {w w' : World} {rp base size m T : Nat} {bs : Bs} {v : Value} {xs : List Value} (h : RdS w rp bs) (ho : w.ownsRow base T size v m xs) (hT : T ≠ 5) (hb : rp < base) (hg : w.grownBy w' v.ownBlock) : RdS w' rp bs := by
  obtain ⟨a, c, h1, h2, h3, h4⟩ := h
  refine ⟨a, c, (hg.block rp (lt_of_block h1) fun e => ?_).trans h1, bytes_grown h2 ho hT hg, h3, h4⟩
  have := (ho.lt rp e.symm).1
  omega
theorem own_type {w : World} {base size m T k U : Nat} {v : Value} {xs : List Value} {cs : Array Value} (ho : w.ownsRow base T size v m xs) (hb : w.heap[k]? = some (.cells cs U (0, 0))) (hT : T ≠ U) (e : some k = v.ownBlock) : False := by
  rcases ho.2 with ⟨rfl, -⟩ | ⟨g, cap, cur, rfl, -, hg3, -⟩
  · cases e
  · injection e with e
    have e2 : k = g := e
    subst e2
    rw [hb] at hg3
    injection hg3 with hg3
    injection hg3 with _ h _
    exact hT h.symm
theorem ownP_slice {w : World} {base n : Nat} {v : Value} {L : List Pt} (h : OwnP w base v L) (hn : L.length = n) : ∃ a c, v = .slice a n c := by
  obtain ⟨a, c, e⟩ := jown_form h
  exact ⟨a, c, by rw [← hn]; exact e⟩
theorem post_load {W : World} {g : Nat} {x0 : Nat} {x1 : Int} {x2 : Nat} {a : Option Addr} {n c : Nat} (h : W.heap[g]? = some (.cells #[.int .u64 x0, .int .i64 x1, .int .u32 x2, .slice a n c] 49 (0, 0))) : (loadVar 49 ⟨g, 0, none⟩).run Tryz.prog W = .ok (.agg #[.int .u64 x0, .int .i64 x1, .int .u32 x2, .slice a n c]) W := by
  have hc0 : W.cell? ⟨g, 0, none⟩ = some (.int .u64 x0) := by rw [cell_of_row h]; rfl
  have hc1 : W.cell? ⟨g, 1, none⟩ = some (.int .i64 x1) := by rw [cell_of_row h]; rfl
  have hc2 : W.cell? ⟨g, 2, none⟩ = some (.int .u32 x2) := by rw [cell_of_row h]; rfl
  have hc3 : W.cell? ⟨g, 3, none⟩ = some (.slice a n c) := by rw [cell_of_row h]; rfl
  go_simp
theorem own_base {w : World} {base base' size n : Nat} {e : TypeId} {v : Value} {xs : List Value} (hb : base' ≤ base) (h : w.ownsRow base e size v n xs) : w.ownsRow base' e size v n xs :=
  ⟨h.1, h.2.elim Or.inl (fun ⟨g, cap, cur, hv, hg, r⟩ => Or.inr ⟨g, cap, cur, hv, Nat.le_trans hb hg, r⟩)⟩
theorem ba_same (s : ByteArray) : (⟨s.data.toList.toArray⟩ : ByteArray) = s := ba_data rfl
set_option maxHeartbeats 2000000 in
theorem gpost_any {rp seq ten : Nat} {t : Int} {L : List Pt} (w : World) (hR : RdS w rp (postL seq t ten L)) (hs : seq < 18446744073709551616) (ht : Acct.inInt t) (hten : ten < 4294967296) (hL : L.length ≤ 16) (hq : ∀ q ∈ L, 0 < q.a.size ∧ q.a.size ≤ 32 ∧ Acct.inInt q.n) :
    Calls Tryz.prog 66 #[.agg #[.pointer (some ⟨rp, 0, none⟩)]] w fun e w' => ∃ lv, e = .returned (.agg #[.int .u64 seq, .int .i64 t, .int .u32 ten, lv]) ∧ OwnP w' w.heap.size lv L ∧ RdS w' rp [] ∧ w.grownBy w' (some rp) := by
  have hrp : rp < w.heap.size := by obtain ⟨a, c, h1, -⟩ := hR; exact lt_of_block h1
  rw [post_bytes] at hR
  obtain ⟨w1, hw1⟩ : ∃ W, W = (w.alloc (.cells #[.pointer (some ⟨rp, 0, none⟩)] 129)).alloc (.cells #[.int .u64 0, .int .i64 0, .int .u32 0, .slice none 0 0] 49) := ⟨_, rfl⟩
  obtain ⟨h0, hb⟩ := two_allocs (w := w) (A := #[.pointer (some ⟨rp, 0, none⟩)]) (B := #[.int .u64 0, .int .i64 0, .int .u32 0, .slice none 0 0]) (S := 129) (T := 49)
  have h1 := alloc_block (w.alloc (.cells #[.pointer (some ⟨rp, 0, none⟩)] 129)) #[.int .u64 0, .int .i64 0, .int .u32 0, .slice none 0 0] 49 (0, 0)
  have es : (w.alloc (.cells #[.pointer (some ⟨rp, 0, none⟩)] 129)).heap.size = w.heap.size + 1 := by simp
  rw [es] at h1
  rw [← hw1] at h0 h1 hb
  have R1 := Lib.hid (hR.below hb)
  have O0 := Lib.hid h0
  have O1 := Lib.hid h1
  have OO := Lib.hid h1
  have B1 := Lib.hid hb
  have HRP : Hid (rp < w.heap.size) := hrp
  have HQ := Lib.hid hq
  have HL16 := Lib.hid hL
  have SZ : Hid (w.heap.size + 1 < w1.heap.size) := lt_of_block h1
  clear hR h0 h1 hb hrp es hq
  go_enter Tryz.func66, Tryz.ntmps66
  go_upto_region 1 with fail
  rw [← hw1]
  clear hw1
  have KX : Hid (∀ W, w1.grownBy W (some rp) → W.cell? ⟨w.heap.size, 0, none⟩ = some (.pointer (some ⟨rp, 0, none⟩))) := fun W hg => by
    rw [cell_of_row (grown_block hg O0.out (by have := HRP.out; omega))]
    rfl
  go_cut [3] from 4 to 12 (fun pv wc => ∃ gp : Nat, pv = .pointer (some ⟨gp, 0, none⟩) ∧ w1.heap.size ≤ gp ∧ Hid (wc.heap[gp]? = some (.cells #[.int .u64 seq, .int .i64 t, .int .u32 ten, .slice none 0 0] 49 (0, 0))) ∧ Hid (RdS wc rp (big8 L.length ++ L.flatMap partL)) ∧ Hid (w1.grownBy wc (some rp)))
  case first =>
    refine UpTo.start (z := 10) (C := (fun W => W.cell? ⟨w.heap.size, 0, none⟩ = some (.pointer (some ⟨rp, 0, none⟩)))) (by kernel_rfl) ?_ (fun hHeld => ?_)
    · (try dsimp only)
      exact KX.out _ (grown_of_below (Below.refl _ _).drew)
    refine PlanZ.start (plan := [0, 1, 3, 4, 6]) (fuel := 6) (by decide +kernel) (by assumption) ?_
    refine PlanZ.free (i := 0) (ds := some 4) (v := ?_) rfl rfl rfl ?_ (fun _ _ _ h => h) ?_
    rotate_left
    · (intro w hSw; (try dsimp only at hSw); go_simp; first | done | with_reducible rfl)
    (try simp only [Act.put, List.setIfInBounds_toArray, List.set_cons_zero, List.set_cons_succ])
    refine PlanZ.free (i := 1) (ds := some 5) (v := ?_) rfl rfl rfl ?_ (fun _ _ _ h => h) ?_
    rotate_left
    · (intro w hSw; (try dsimp only at hSw); go_simp; first | done | with_reducible rfl)
    (try simp only [Act.put, List.setIfInBounds_toArray, List.set_cons_zero, List.set_cons_succ])
    refine PlanZ.free (i := 3) (ds := some 7) (v := ?_) rfl rfl rfl ?_ (fun _ _ _ h => h) ?_
    rotate_left
    · (intro w hSw; (try dsimp only at hSw); go_simp; first | done | with_reducible rfl)
    (try simp only [Act.put, List.setIfInBounds_toArray, List.set_cons_zero, List.set_cons_succ])
    refine PlanZ.free (i := 4) (ds := some 8) (v := ?_) rfl rfl rfl ?_ (fun _ _ _ h => h) ?_
    rotate_left
    · (intro w hSw; (try dsimp only at hSw); go_simp; first | done | with_reducible rfl)
    (try simp only [Act.put, List.setIfInBounds_toArray, List.set_cons_zero, List.set_cons_succ])
    refine PlanZ.free (i := 6) (ds := some 10) (v := ?_) rfl rfl rfl ?_ (fun _ _ _ h => h) ?_
    rotate_left
    · (intro w hSw; (try dsimp only at hSw); go_simp; first | done | with_reducible rfl)
    (try simp only [Act.put, List.setIfInBounds_toArray, List.set_cons_zero, List.set_cons_succ])
    refine PlanZ.stop (fun hHeld => ?_)
    refine UpTo.ready (rs := [2, 9]) (by decide +kernel) (by simp) ?_
    refine AllZ.cons (o := _) rfl ?_ ?_
    · intro K hK
      rw [if_pos (wanted_none (by rfl))]
      (go_simp; go_at_call 67; refine (uint_at _ (R1.out.below (Below.refl _ _).drew) hs).mono ?_; rintro e W2 ⟨rfl, hr, hg⟩; have RR2 := Lib.hid hr; have GG2 : Hid (w1.grownBy W2 (some rp)) := (grown_of_below (Below.refl _ _).drew).trans hg; clear hr hg)
      refine hK.out _ _ ?_ (fun hHeld => ?_)
      · (try dsimp only)
        exact KX.out _ GG2.out
      clear hK K
      (try simp only [Act.put, List.setIfInBounds_toArray, List.set_cons_zero, List.set_cons_succ])
      refine UpTo.ready (rs := [5, 9]) (by decide +kernel) (by simp) ?_
      refine AllZ.cons (o := _) rfl ?_ ?_
      · intro K hK
        rw [if_pos (wanted_none (by rfl))]
        (go_simp; go_at_call 68; refine (int_at W2 RR2.out ht).mono ?_; rintro e W5 ⟨rfl, hr, hg⟩; have RR5 := Lib.hid hr; have GG5 : Hid (w1.grownBy W5 (some rp)) := GG2.out.trans hg; clear hr hg)
        refine hK.out _ _ ?_ (fun hHeld => ?_)
        · (try dsimp only)
          exact KX.out _ GG5.out
        clear hK K
        (try simp only [Act.put, List.setIfInBounds_toArray, List.set_cons_zero, List.set_cons_succ])
        refine UpTo.ready (rs := [7, 9]) (by decide +kernel) (by simp) ?_
        refine AllZ.cons (o := _) rfl ?_ ?_
        · intro K hK
          rw [if_pos (wanted_none (by rfl))]
          (go_simp; go_at_call 69; refine (small_at W5 RR5.out hten).mono ?_; rintro e W7 ⟨rfl, hr, hg⟩; have RR7 := Lib.hid hr; have GG7 : Hid (w1.grownBy W7 (some rp)) := GG5.out.trans hg; clear hr hg)
          refine hK.out _ _ ?_ (fun hHeld => ?_)
          · (try dsimp only)
            exact KX.out _ GG7.out
          clear hK K
          (try simp only [Act.put, List.setIfInBounds_toArray, List.set_cons_zero, List.set_cons_succ])
          refine PlanZ.start (plan := [8]) (fuel := 2) (by decide +kernel) (by assumption) ?_
          refine PlanZ.free (i := 8) (ds := some 12) (v := ?_) rfl rfl rfl ?_ (fun _ _ _ h => h) ?_
          rotate_left
          · (intro w hSw; (try dsimp only at hSw); go_simp; first | done | with_reducible rfl)
          (try simp only [Act.put, List.setIfInBounds_toArray, List.set_cons_zero, List.set_cons_succ])
          refine PlanZ.stop (fun hHeld => ?_)
          refine UpTo.ready (rs := [9]) (by decide +kernel) (by simp) ?_
          refine AllZ.cons (o := _) rfl ?_ AllZ.nil
          intro K hK
          rw [if_pos (wanted_none (by rfl))]
          (go_simp; obtain ⟨W9, h9⟩ : ∃ W, W = W7.alloc (.cells #[.int .u64 0, .int .i64 0, .int .u32 0, .slice none 0 0] 49) := ⟨_, rfl⟩; rw [← h9]; have bb : Below W7.heap.size W7 W9 := (by rw [h9]; exact below_alloc _ _); have op : W9.heap[W7.heap.size]? = some (.cells #[.int .u64 0, .int .i64 0, .int .u32 0, .slice none 0 0] 49 (0, 0)) := (by rw [h9]; exact alloc_block _ _ _ _); have RR9 := Lib.hid (RdS.below RR7.out bb); have GG9 : Hid (w1.grownBy W9 (some rp)) := GG7.out.trans (grown_of_below bb); obtain ⟨gp, hgp⟩ : ∃ g, g = W7.heap.size := ⟨_, rfl⟩; rw [← hgp]; rw [← hgp] at op; have HGL : Hid (w1.heap.size ≤ gp) := (by rw [hgp]; exact GG7.out.size); have HGP : Hid (gp ≠ rp) := (by have := HGL.out; have := SZ.out; have := HRP.out; show _ ≠ _; omega); have OP9 := Lib.hid op; clear h9 bb op hgp)
          refine hK.out _ _ ?_ (fun hHeld => ?_)
          · (try dsimp only)
            exact KX.out _ GG9.out
          clear hK K
          (try simp only [Act.put, List.setIfInBounds_toArray, List.set_cons_zero, List.set_cons_succ])
          refine UpTo.ready (rs := [10]) (by decide +kernel) (by simp) ?_
          refine AllZ.last (o := _) rfl ?_
          intro K hK
          rw [if_pos (wanted_none (by rfl))]
          (have hf0 : W9.frozen? ⟨gp, 0, none⟩ = false := free_of_row OP9.out; have hf1 : W9.frozen? ⟨gp, 1, none⟩ = false := free_of_row OP9.out; have hf2 : W9.frozen? ⟨gp, 2, none⟩ = false := free_of_row OP9.out; have hf3 : W9.frozen? ⟨gp, 3, none⟩ = false := free_of_row OP9.out; have hc0 : W9.cell? ⟨gp, 0, none⟩ = some (.int .u64 0) := (by rw [cell_of_row OP9.out]; rfl); have hc1 : W9.cell? ⟨gp, 1, none⟩ = some (.int .i64 0) := (by rw [cell_of_row OP9.out]; rfl); have hc2 : W9.cell? ⟨gp, 2, none⟩ = some (.int .u32 0) := (by rw [cell_of_row OP9.out]; rfl); have hc3 : W9.cell? ⟨gp, 3, none⟩ = some (.slice none 0 0) := (by rw [cell_of_row OP9.out]; rfl); go_simp)
          refine hK.out _ _ ?_
          clear hK K
          (try simp only [Act.put, List.setIfInBounds_toArray, List.set_cons_zero, List.set_cons_succ])
          refine UpTo.done (by decide +kernel) ?_ _
          clear hf0 hf1 hf2 hf3 hc0 hc1 hc2 hc3
          have HF := Lib.hid (OP9.out)
          have hne : gp ≠ rp := HGP.out
          have HO2 : Hid ((((((W9.setCell ⟨gp, 0, none⟩ (.int .u64 seq)).setCell ⟨gp, 1, none⟩ (.int .i64 t)).setCell ⟨gp, 2, none⟩ (.int .u32 ten)).setCell ⟨gp, 3, none⟩ (.slice none 0 0))).heap[gp]? = some (.cells #[.int .u64 seq, .int .i64 t, .int .u32 ten, .slice none 0 0] 49 (0, 0))) := box4_set OP9.out
          have HR2 : Hid (RdS ((((W9.setCell ⟨gp, 0, none⟩ (.int .u64 seq)).setCell ⟨gp, 1, none⟩ (.int .i64 t)).setCell ⟨gp, 2, none⟩ (.int .u32 ten)).setCell ⟨gp, 3, none⟩ (.slice none 0 0)) rp (big8 L.length ++ L.flatMap partL)) := rd_four RR9.out OP9.out (by decide) hne
          have HG2 : Hid (w1.grownBy ((((W9.setCell ⟨gp, 0, none⟩ (.int .u64 seq)).setCell ⟨gp, 1, none⟩ (.int .i64 t)).setCell ⟨gp, 2, none⟩ (.int .u32 ten)).setCell ⟨gp, 3, none⟩ (.slice none 0 0)) (some rp)) := grown_new (grown_new (grown_new (grown_new GG9.out HGL.out) HGL.out) HGL.out) HGL.out
          go_wp2_with fail
          go_meet
          case rel => exact ⟨gp, rfl, HGL.out, HO2.out, HR2.out, HG2.out⟩
        refine AllZ.cons (o := _) rfl ?_ ?_
        · intro K hK
          rw [if_pos (wanted_none (by rfl))]
          (go_simp; obtain ⟨W9, h9⟩ : ∃ W, W = W5.alloc (.cells #[.int .u64 0, .int .i64 0, .int .u32 0, .slice none 0 0] 49) := ⟨_, rfl⟩; rw [← h9]; have bb : Below W5.heap.size W5 W9 := (by rw [h9]; exact below_alloc _ _); have op : W9.heap[W5.heap.size]? = some (.cells #[.int .u64 0, .int .i64 0, .int .u32 0, .slice none 0 0] 49 (0, 0)) := (by rw [h9]; exact alloc_block _ _ _ _); have RR9 := Lib.hid (RdS.below RR5.out bb); have GG9 : Hid (w1.grownBy W9 (some rp)) := GG5.out.trans (grown_of_below bb); obtain ⟨gp, hgp⟩ : ∃ g, g = W5.heap.size := ⟨_, rfl⟩; rw [← hgp]; rw [← hgp] at op; have HGL : Hid (w1.heap.size ≤ gp) := (by rw [hgp]; exact GG5.out.size); have HGP : Hid (gp ≠ rp) := (by have := HGL.out; have := SZ.out; have := HRP.out; show _ ≠ _; omega); have OP9 := Lib.hid op; clear h9 bb op hgp)
          refine hK.out _ _ ?_ (fun hHeld => ?_)
          · (try dsimp only)
            exact KX.out _ GG9.out
          clear hK K
          (try simp only [Act.put, List.setIfInBounds_toArray, List.set_cons_zero, List.set_cons_succ])
          refine UpTo.ready (rs := [7]) (by decide +kernel) (by simp) ?_
          refine AllZ.cons (o := _) rfl ?_ AllZ.nil
          intro K hK
          rw [if_pos (wanted_none (by rfl))]
          (go_simp; go_at_call 69; refine (small_at W9 RR9.out hten).mono ?_; rintro e W7 ⟨rfl, hr, hg⟩; have RR7 := Lib.hid hr; have GG7 : Hid (w1.grownBy W7 (some rp)) := GG9.out.trans hg; have OP7 : Hid (W7.heap[gp]? = some (.cells #[.int .u64 0, .int .i64 0, .int .u32 0, .slice none 0 0] 49 (0, 0))) := grown_block hg OP9.out HGP.out; clear hr hg)
          refine hK.out _ _ ?_ (fun hHeld => ?_)
          · (try dsimp only)
            exact KX.out _ GG7.out
          clear hK K
          (try simp only [Act.put, List.setIfInBounds_toArray, List.set_cons_zero, List.set_cons_succ])
          refine PlanZ.start (plan := [8]) (fuel := 1) (by decide +kernel) (by assumption) ?_
          refine PlanZ.free (i := 8) (ds := some 12) (v := ?_) rfl rfl rfl ?_ (fun _ _ _ h => h) ?_
          rotate_left
          · (intro w hSw; (try dsimp only at hSw); go_simp; first | done | with_reducible rfl)
          (try simp only [Act.put, List.setIfInBounds_toArray, List.set_cons_zero, List.set_cons_succ])
          refine PlanZ.stop (fun hHeld => ?_)
          refine UpTo.ready (rs := [10]) (by decide +kernel) (by simp) ?_
          refine AllZ.last (o := _) rfl ?_
          intro K hK
          rw [if_pos (wanted_none (by rfl))]
          (have hf0 : W7.frozen? ⟨gp, 0, none⟩ = false := free_of_row OP7.out; have hf1 : W7.frozen? ⟨gp, 1, none⟩ = false := free_of_row OP7.out; have hf2 : W7.frozen? ⟨gp, 2, none⟩ = false := free_of_row OP7.out; have hf3 : W7.frozen? ⟨gp, 3, none⟩ = false := free_of_row OP7.out; have hc0 : W7.cell? ⟨gp, 0, none⟩ = some (.int .u64 0) := (by rw [cell_of_row OP7.out]; rfl); have hc1 : W7.cell? ⟨gp, 1, none⟩ = some (.int .i64 0) := (by rw [cell_of_row OP7.out]; rfl); have hc2 : W7.cell? ⟨gp, 2, none⟩ = some (.int .u32 0) := (by rw [cell_of_row OP7.out]; rfl); have hc3 : W7.cell? ⟨gp, 3, none⟩ = some (.slice none 0 0) := (by rw [cell_of_row OP7.out]; rfl); go_simp)
          refine hK.out _ _ ?_
          clear hK K
          (try simp only [Act.put, List.setIfInBounds_toArray, List.set_cons_zero, List.set_cons_succ])
          refine UpTo.done (by decide +kernel) ?_ _
          clear hf0 hf1 hf2 hf3 hc0 hc1 hc2 hc3
          have HF := Lib.hid (OP7.out)
          have hne : gp ≠ rp := HGP.out
          have HO2 : Hid ((((((W7.setCell ⟨gp, 0, none⟩ (.int .u64 seq)).setCell ⟨gp, 1, none⟩ (.int .i64 t)).setCell ⟨gp, 2, none⟩ (.int .u32 ten)).setCell ⟨gp, 3, none⟩ (.slice none 0 0))).heap[gp]? = some (.cells #[.int .u64 seq, .int .i64 t, .int .u32 ten, .slice none 0 0] 49 (0, 0))) := box4_set OP7.out
          have HR2 : Hid (RdS ((((W7.setCell ⟨gp, 0, none⟩ (.int .u64 seq)).setCell ⟨gp, 1, none⟩ (.int .i64 t)).setCell ⟨gp, 2, none⟩ (.int .u32 ten)).setCell ⟨gp, 3, none⟩ (.slice none 0 0)) rp (big8 L.length ++ L.flatMap partL)) := rd_four RR7.out OP7.out (by decide) hne
          have HG2 : Hid (w1.grownBy ((((W7.setCell ⟨gp, 0, none⟩ (.int .u64 seq)).setCell ⟨gp, 1, none⟩ (.int .i64 t)).setCell ⟨gp, 2, none⟩ (.int .u32 ten)).setCell ⟨gp, 3, none⟩ (.slice none 0 0)) (some rp)) := grown_new (grown_new (grown_new (grown_new GG7.out HGL.out) HGL.out) HGL.out) HGL.out
          go_wp2_with fail
          go_meet
          case rel => exact ⟨gp, rfl, HGL.out, HO2.out, HR2.out, HG2.out⟩
        exact AllZ.nil
      refine AllZ.cons (o := _) rfl ?_ ?_
      · intro K hK
        rw [if_pos (wanted_none (by rfl))]
        (go_simp; obtain ⟨W9, h9⟩ : ∃ W, W = W2.alloc (.cells #[.int .u64 0, .int .i64 0, .int .u32 0, .slice none 0 0] 49) := ⟨_, rfl⟩; rw [← h9]; have bb : Below W2.heap.size W2 W9 := (by rw [h9]; exact below_alloc _ _); have op : W9.heap[W2.heap.size]? = some (.cells #[.int .u64 0, .int .i64 0, .int .u32 0, .slice none 0 0] 49 (0, 0)) := (by rw [h9]; exact alloc_block _ _ _ _); have RR9 := Lib.hid (RdS.below RR2.out bb); have GG9 : Hid (w1.grownBy W9 (some rp)) := GG2.out.trans (grown_of_below bb); obtain ⟨gp, hgp⟩ : ∃ g, g = W2.heap.size := ⟨_, rfl⟩; rw [← hgp]; rw [← hgp] at op; have HGL : Hid (w1.heap.size ≤ gp) := (by rw [hgp]; exact GG2.out.size); have HGP : Hid (gp ≠ rp) := (by have := HGL.out; have := SZ.out; have := HRP.out; show _ ≠ _; omega); have OP9 := Lib.hid op; clear h9 bb op hgp)
        refine hK.out _ _ ?_ (fun hHeld => ?_)
        · (try dsimp only)
          exact KX.out _ GG9.out
        clear hK K
        (try simp only [Act.put, List.setIfInBounds_toArray, List.set_cons_zero, List.set_cons_succ])
        refine UpTo.ready (rs := [5]) (by decide +kernel) (by simp) ?_
        refine AllZ.cons (o := _) rfl ?_ AllZ.nil
        intro K hK
        rw [if_pos (wanted_none (by rfl))]
        (go_simp; go_at_call 68; refine (int_at W9 RR9.out ht).mono ?_; rintro e W5 ⟨rfl, hr, hg⟩; have RR5 := Lib.hid hr; have GG5 : Hid (w1.grownBy W5 (some rp)) := GG9.out.trans hg; have OP5 : Hid (W5.heap[gp]? = some (.cells #[.int .u64 0, .int .i64 0, .int .u32 0, .slice none 0 0] 49 (0, 0))) := grown_block hg OP9.out HGP.out; clear hr hg)
        refine hK.out _ _ ?_ (fun hHeld => ?_)
        · (try dsimp only)
          exact KX.out _ GG5.out
        clear hK K
        (try simp only [Act.put, List.setIfInBounds_toArray, List.set_cons_zero, List.set_cons_succ])
        refine UpTo.ready (rs := [7]) (by decide +kernel) (by simp) ?_
        refine AllZ.cons (o := _) rfl ?_ AllZ.nil
        intro K hK
        rw [if_pos (wanted_none (by rfl))]
        (go_simp; go_at_call 69; refine (small_at W5 RR5.out hten).mono ?_; rintro e W7 ⟨rfl, hr, hg⟩; have RR7 := Lib.hid hr; have GG7 : Hid (w1.grownBy W7 (some rp)) := GG5.out.trans hg; have OP7 : Hid (W7.heap[gp]? = some (.cells #[.int .u64 0, .int .i64 0, .int .u32 0, .slice none 0 0] 49 (0, 0))) := grown_block hg OP5.out HGP.out; clear hr hg)
        refine hK.out _ _ ?_ (fun hHeld => ?_)
        · (try dsimp only)
          exact KX.out _ GG7.out
        clear hK K
        (try simp only [Act.put, List.setIfInBounds_toArray, List.set_cons_zero, List.set_cons_succ])
        refine PlanZ.start (plan := [8]) (fuel := 1) (by decide +kernel) (by assumption) ?_
        refine PlanZ.free (i := 8) (ds := some 12) (v := ?_) rfl rfl rfl ?_ (fun _ _ _ h => h) ?_
        rotate_left
        · (intro w hSw; (try dsimp only at hSw); go_simp; first | done | with_reducible rfl)
        (try simp only [Act.put, List.setIfInBounds_toArray, List.set_cons_zero, List.set_cons_succ])
        refine PlanZ.stop (fun hHeld => ?_)
        refine UpTo.ready (rs := [10]) (by decide +kernel) (by simp) ?_
        refine AllZ.last (o := _) rfl ?_
        intro K hK
        rw [if_pos (wanted_none (by rfl))]
        (have hf0 : W7.frozen? ⟨gp, 0, none⟩ = false := free_of_row OP7.out; have hf1 : W7.frozen? ⟨gp, 1, none⟩ = false := free_of_row OP7.out; have hf2 : W7.frozen? ⟨gp, 2, none⟩ = false := free_of_row OP7.out; have hf3 : W7.frozen? ⟨gp, 3, none⟩ = false := free_of_row OP7.out; have hc0 : W7.cell? ⟨gp, 0, none⟩ = some (.int .u64 0) := (by rw [cell_of_row OP7.out]; rfl); have hc1 : W7.cell? ⟨gp, 1, none⟩ = some (.int .i64 0) := (by rw [cell_of_row OP7.out]; rfl); have hc2 : W7.cell? ⟨gp, 2, none⟩ = some (.int .u32 0) := (by rw [cell_of_row OP7.out]; rfl); have hc3 : W7.cell? ⟨gp, 3, none⟩ = some (.slice none 0 0) := (by rw [cell_of_row OP7.out]; rfl); go_simp)
        refine hK.out _ _ ?_
        clear hK K
        (try simp only [Act.put, List.setIfInBounds_toArray, List.set_cons_zero, List.set_cons_succ])
        refine UpTo.done (by decide +kernel) ?_ _
        clear hf0 hf1 hf2 hf3 hc0 hc1 hc2 hc3
        have HF := Lib.hid (OP7.out)
        have hne : gp ≠ rp := HGP.out
        have HO2 : Hid ((((((W7.setCell ⟨gp, 0, none⟩ (.int .u64 seq)).setCell ⟨gp, 1, none⟩ (.int .i64 t)).setCell ⟨gp, 2, none⟩ (.int .u32 ten)).setCell ⟨gp, 3, none⟩ (.slice none 0 0))).heap[gp]? = some (.cells #[.int .u64 seq, .int .i64 t, .int .u32 ten, .slice none 0 0] 49 (0, 0))) := box4_set OP7.out
        have HR2 : Hid (RdS ((((W7.setCell ⟨gp, 0, none⟩ (.int .u64 seq)).setCell ⟨gp, 1, none⟩ (.int .i64 t)).setCell ⟨gp, 2, none⟩ (.int .u32 ten)).setCell ⟨gp, 3, none⟩ (.slice none 0 0)) rp (big8 L.length ++ L.flatMap partL)) := rd_four RR7.out OP7.out (by decide) hne
        have HG2 : Hid (w1.grownBy ((((W7.setCell ⟨gp, 0, none⟩ (.int .u64 seq)).setCell ⟨gp, 1, none⟩ (.int .i64 t)).setCell ⟨gp, 2, none⟩ (.int .u32 ten)).setCell ⟨gp, 3, none⟩ (.slice none 0 0)) (some rp)) := grown_new (grown_new (grown_new (grown_new GG7.out HGL.out) HGL.out) HGL.out) HGL.out
        go_wp2_with fail
        go_meet
        case rel => exact ⟨gp, rfl, HGL.out, HO2.out, HR2.out, HG2.out⟩
      exact AllZ.nil
    refine AllZ.cons (o := _) rfl ?_ ?_
    · intro K hK
      rw [if_pos (wanted_none (by rfl))]
      (go_simp; obtain ⟨W9, h9⟩ : ∃ W, W = (w1.alloc (.cells #[.int .u64 0, .int .i64 0, .int .u32 0, .slice none 0 0] 49)).drew := ⟨_, rfl⟩; rw [← h9]; have bb : Below w1.heap.size w1 W9 := (by rw [h9]; exact (below_alloc _ _).drew); have op : W9.heap[w1.heap.size]? = some (.cells #[.int .u64 0, .int .i64 0, .int .u32 0, .slice none 0 0] 49 (0, 0)) := (by rw [h9]; exact alloc_block _ _ _ _); have RR9 := Lib.hid (RdS.below R1.out bb); have GG9 : Hid (w1.grownBy W9 (some rp)) := grown_of_below bb; obtain ⟨gp, hgp⟩ : ∃ g, g = w1.heap.size := ⟨_, rfl⟩; rw [← hgp]; rw [← hgp] at op; have HGL : Hid (w1.heap.size ≤ gp) := (by rw [hgp]; exact Nat.le_refl _); have HGP : Hid (gp ≠ rp) := (by have := HGL.out; have := SZ.out; have := HRP.out; show _ ≠ _; omega); have OP9 := Lib.hid op; clear h9 bb op hgp)
      refine hK.out _ _ ?_ (fun hHeld => ?_)
      · (try dsimp only)
        exact KX.out _ GG9.out
      clear hK K
      (try simp only [Act.put, List.setIfInBounds_toArray, List.set_cons_zero, List.set_cons_succ])
      refine UpTo.ready (rs := [2]) (by decide +kernel) (by simp) ?_
      refine AllZ.cons (o := _) rfl ?_ AllZ.nil
      intro K hK
      rw [if_pos (wanted_none (by rfl))]
      (go_simp; go_at_call 67; refine (uint_at W9 RR9.out hs).mono ?_; rintro e W2 ⟨rfl, hr, hg⟩; have RR2 := Lib.hid hr; have GG2 : Hid (w1.grownBy W2 (some rp)) := GG9.out.trans hg; have OP2 : Hid (W2.heap[gp]? = some (.cells #[.int .u64 0, .int .i64 0, .int .u32 0, .slice none 0 0] 49 (0, 0))) := grown_block hg OP9.out HGP.out; clear hr hg)
      refine hK.out _ _ ?_ (fun hHeld => ?_)
      · (try dsimp only)
        exact KX.out _ GG2.out
      clear hK K
      (try simp only [Act.put, List.setIfInBounds_toArray, List.set_cons_zero, List.set_cons_succ])
      refine UpTo.ready (rs := [5]) (by decide +kernel) (by simp) ?_
      refine AllZ.cons (o := _) rfl ?_ AllZ.nil
      intro K hK
      rw [if_pos (wanted_none (by rfl))]
      (go_simp; go_at_call 68; refine (int_at W2 RR2.out ht).mono ?_; rintro e W5 ⟨rfl, hr, hg⟩; have RR5 := Lib.hid hr; have GG5 : Hid (w1.grownBy W5 (some rp)) := GG2.out.trans hg; have OP5 : Hid (W5.heap[gp]? = some (.cells #[.int .u64 0, .int .i64 0, .int .u32 0, .slice none 0 0] 49 (0, 0))) := grown_block hg OP2.out HGP.out; clear hr hg)
      refine hK.out _ _ ?_ (fun hHeld => ?_)
      · (try dsimp only)
        exact KX.out _ GG5.out
      clear hK K
      (try simp only [Act.put, List.setIfInBounds_toArray, List.set_cons_zero, List.set_cons_succ])
      refine UpTo.ready (rs := [7]) (by decide +kernel) (by simp) ?_
      refine AllZ.cons (o := _) rfl ?_ AllZ.nil
      intro K hK
      rw [if_pos (wanted_none (by rfl))]
      (go_simp; go_at_call 69; refine (small_at W5 RR5.out hten).mono ?_; rintro e W7 ⟨rfl, hr, hg⟩; have RR7 := Lib.hid hr; have GG7 : Hid (w1.grownBy W7 (some rp)) := GG5.out.trans hg; have OP7 : Hid (W7.heap[gp]? = some (.cells #[.int .u64 0, .int .i64 0, .int .u32 0, .slice none 0 0] 49 (0, 0))) := grown_block hg OP5.out HGP.out; clear hr hg)
      refine hK.out _ _ ?_ (fun hHeld => ?_)
      · (try dsimp only)
        exact KX.out _ GG7.out
      clear hK K
      (try simp only [Act.put, List.setIfInBounds_toArray, List.set_cons_zero, List.set_cons_succ])
      refine PlanZ.start (plan := [8]) (fuel := 1) (by decide +kernel) (by assumption) ?_
      refine PlanZ.free (i := 8) (ds := some 12) (v := ?_) rfl rfl rfl ?_ (fun _ _ _ h => h) ?_
      rotate_left
      · (intro w hSw; (try dsimp only at hSw); go_simp; first | done | with_reducible rfl)
      (try simp only [Act.put, List.setIfInBounds_toArray, List.set_cons_zero, List.set_cons_succ])
      refine PlanZ.stop (fun hHeld => ?_)
      refine UpTo.ready (rs := [10]) (by decide +kernel) (by simp) ?_
      refine AllZ.last (o := _) rfl ?_
      intro K hK
      rw [if_pos (wanted_none (by rfl))]
      (have hf0 : W7.frozen? ⟨gp, 0, none⟩ = false := free_of_row OP7.out; have hf1 : W7.frozen? ⟨gp, 1, none⟩ = false := free_of_row OP7.out; have hf2 : W7.frozen? ⟨gp, 2, none⟩ = false := free_of_row OP7.out; have hf3 : W7.frozen? ⟨gp, 3, none⟩ = false := free_of_row OP7.out; have hc0 : W7.cell? ⟨gp, 0, none⟩ = some (.int .u64 0) := (by rw [cell_of_row OP7.out]; rfl); have hc1 : W7.cell? ⟨gp, 1, none⟩ = some (.int .i64 0) := (by rw [cell_of_row OP7.out]; rfl); have hc2 : W7.cell? ⟨gp, 2, none⟩ = some (.int .u32 0) := (by rw [cell_of_row OP7.out]; rfl); have hc3 : W7.cell? ⟨gp, 3, none⟩ = some (.slice none 0 0) := (by rw [cell_of_row OP7.out]; rfl); go_simp)
      refine hK.out _ _ ?_
      clear hK K
      (try simp only [Act.put, List.setIfInBounds_toArray, List.set_cons_zero, List.set_cons_succ])
      refine UpTo.done (by decide +kernel) ?_ _
      clear hf0 hf1 hf2 hf3 hc0 hc1 hc2 hc3
      have HF := Lib.hid (OP7.out)
      have hne : gp ≠ rp := HGP.out
      have HO2 : Hid ((((((W7.setCell ⟨gp, 0, none⟩ (.int .u64 seq)).setCell ⟨gp, 1, none⟩ (.int .i64 t)).setCell ⟨gp, 2, none⟩ (.int .u32 ten)).setCell ⟨gp, 3, none⟩ (.slice none 0 0))).heap[gp]? = some (.cells #[.int .u64 seq, .int .i64 t, .int .u32 ten, .slice none 0 0] 49 (0, 0))) := box4_set OP7.out
      have HR2 : Hid (RdS ((((W7.setCell ⟨gp, 0, none⟩ (.int .u64 seq)).setCell ⟨gp, 1, none⟩ (.int .i64 t)).setCell ⟨gp, 2, none⟩ (.int .u32 ten)).setCell ⟨gp, 3, none⟩ (.slice none 0 0)) rp (big8 L.length ++ L.flatMap partL)) := rd_four RR7.out OP7.out (by decide) hne
      have HG2 : Hid (w1.grownBy ((((W7.setCell ⟨gp, 0, none⟩ (.int .u64 seq)).setCell ⟨gp, 1, none⟩ (.int .i64 t)).setCell ⟨gp, 2, none⟩ (.int .u32 ten)).setCell ⟨gp, 3, none⟩ (.slice none 0 0)) (some rp)) := grown_new (grown_new (grown_new (grown_new GG7.out HGL.out) HGL.out) HGL.out) HGL.out
      go_wp2_with fail
      go_meet
      case rel => exact ⟨gp, rfl, HGL.out, HO2.out, HR2.out, HG2.out⟩
    exact AllZ.nil
  case rest =>
    obtain ⟨gp, rfl, hgp, OP, RR, GG⟩ := hcut
    have HGP : Hid (w1.heap.size ≤ gp ∧ gp ≠ rp) := by have := SZ.out; have := HRP.out; exact ⟨hgp, by omega⟩
    have x0 := KX.out wc GG.out
    have CX := Lib.hid (count_at wc RR.out hL)
    clear hgp O1 R1
    go_wp2_with fail
    refine CX.out.mono ?_
    rintro e w3 ⟨rfl, hr, hg⟩
    have R3 := Lib.hid hr
    have G3 : Hid (w1.grownBy w3 (some rp)) := GG.out.trans hg
    have O3 : Hid (w3.heap[gp]? = some (.cells #[.int .u64 seq, .int .i64 t, .int .u32 ten, .slice none 0 0] 49 (0, 0))) := grown_block hg OP.out HGP.out.2
    obtain ⟨i0, hi, hz0, hz1, hz2⟩ := info_parts infoPt
    clear hr hg CX x0 RR GG OP
    go_wp2_with fail
    go_loopw [16] (fun iv wr => ∃ (k : Nat) (lv : Value), k ≤ L.length ∧ iv = .int .i64 k ∧ Hid (wr.heap[gp]? = some (.cells #[.int .u64 seq, .int .i64 t, .int .u32 ten, lv] 49 (0, 0))) ∧ Hid (OwnP wr w1.heap.size lv (L.take k)) ∧ Hid (RdS wr rp ((L.drop k).flatMap partL)) ∧ Hid (w1.grownBy wr (some rp))) (fun iv _ => L.length - (intOf iv).toNat)
    case atStart => exact ⟨0, _, by omega, rfl, O3.out, World.ownsRow_nil _ _ _ _, R3.out, G3.out⟩
    case round =>
      obtain ⟨k, lv, hk, rfl, OR, WR, RR, GR⟩ := hrel
      by_cases hlt : k < L.length
      · have hz : (k : Int) < (L.length : Int) := by omega
        obtain ⟨q1, q2, q3⟩ := HQ.out L[k] (List.getElem_mem hlt)
        have hpb := parts_snoc hlt
        have HT : Hid (L.take (k + 1) = L.take k ++ [L[k]]) := List.take_succ_eq_append_getElem hlt
        have htl : (L.take k).length = k := by rw [List.length_take]; omega
        obtain ⟨la, lc, rfl⟩ := ownP_slice WR.out htl
        have RB := RR.out
        rw [hpb] at RB
        generalize L[k] = q at *
        obtain ⟨s, n⟩ := q
        dsimp only at q1 q2 q3 RB
        have TX := Lib.hid (fun (W : World) (h : RdS W rp ((big8 s.size).drop 4 ++ s.data.toList ++ (big8 (toU n) ++ (L.drop (k + 1)).flatMap partL))) => text_at W h q1 (by omega))
        have IX := Lib.hid (fun (W : World) (h : RdS W rp (big8 (toU n) ++ (L.drop (k + 1)).flatMap partL)) => int_at W h q3)
        have RB0 := Lib.hid RB
        have c3 : wr.cell? ⟨gp, 3, none⟩ = some (.slice la k lc) := by rw [cell_of_row OR.out]; rfl
        have KX4 : Hid (∀ W, w1.grownBy W (some rp) → W.heap[gp]? = some (.cells #[.int .u64 seq, .int .i64 t, .int .u32 ten, .slice la k lc] 49 (0, 0)) → W.cell? ⟨w.heap.size, 0, none⟩ = some (.pointer (some ⟨rp, 0, none⟩)) ∧ W.cell? ⟨gp, 3, none⟩ = some (.slice la k lc)) := fun W h1 h2 => ⟨KX.out W h1, by rw [cell_of_row h2]; rfl⟩
        have HKL : Hid (k < 16) := by show _ < _; omega
        have WR2 : Hid (wr.ownsRow w1.heap.size 41 2 (.slice la k lc) k ((L.take k).map Pt.cells).flatten) := by
          have h := WR.out
          unfold OwnP at h
          rw [htl] at h
          exact h
        clear RB hpb htl q1 q2 q3 WR RR c3
        go_upto_region 4 with fail
        refine UpTo.start (z := 13) (C := (fun W => W.cell? ⟨w.heap.size, 0, none⟩ = some (.pointer (some ⟨rp, 0, none⟩)) ∧ W.cell? ⟨gp, 3, none⟩ = some (.slice la k lc))) (by kernel_rfl) ?_ (fun hHeld => ?_)
        · (try dsimp only)
          exact KX4.out _ (GR.out.trans (grown_of_below (Below.refl _ _).drew)) OR.out
        refine PlanZ.start (plan := [0, 1, 2, 3, 6, 7]) (fuel := 8) (by decide +kernel) (by assumption) ?_
        refine PlanZ.free (i := 0) (ds := some 18) (v := ?_) rfl rfl rfl ?_ (fun _ _ _ h => h) ?_
        rotate_left
        · (intro w hSw; (try dsimp only at hSw); go_simp; first | done | with_reducible rfl)
        (try simp only [Act.put, List.setIfInBounds_toArray, List.set_cons_zero, List.set_cons_succ])
        refine PlanZ.free (i := 1) (ds := some 19) (v := ?_) rfl rfl rfl ?_ (fun _ _ _ h => h) ?_
        rotate_left
        · (intro w hSw; (try dsimp only at hSw); go_simp; first | done | with_reducible rfl)
        (try simp only [Act.put, List.setIfInBounds_toArray, List.set_cons_zero, List.set_cons_succ])
        refine PlanZ.free (i := 2) (ds := some 20) (v := ?_) rfl rfl rfl ?_ (fun _ _ _ h => h) ?_
        rotate_left
        · (intro w hSw; (try dsimp only at hSw); go_simp; first | done | with_reducible rfl)
        (try simp only [Act.put, List.setIfInBounds_toArray, List.set_cons_zero, List.set_cons_succ])
        refine PlanZ.free (i := 3) (ds := some 21) (v := ?_) rfl rfl rfl ?_ (fun _ _ _ h => h) ?_
        rotate_left
        · (intro w hSw; (try dsimp only at hSw); go_simp; first | done | with_reducible rfl)
        (try simp only [Act.put, List.setIfInBounds_toArray, List.set_cons_zero, List.set_cons_succ])
        refine PlanZ.free (i := 6) (ds := some 24) (v := ?_) rfl rfl rfl ?_ (fun _ _ _ h => h) ?_
        rotate_left
        · (intro w hSw; (try dsimp only at hSw); go_simp; first | done | with_reducible rfl)
        (try simp only [Act.put, List.setIfInBounds_toArray, List.set_cons_zero, List.set_cons_succ])
        refine PlanZ.free (i := 7) (ds := some 25) (v := ?_) rfl rfl rfl ?_ (fun _ _ _ h => h) ?_
        rotate_left
        · (intro w hSw; (try dsimp only at hSw); go_simp; first | done | with_reducible rfl)
        (try simp only [Act.put, List.setIfInBounds_toArray, List.set_cons_zero, List.set_cons_succ])
        refine PlanZ.stop (fun hHeld => ?_)
        refine UpTo.ready (rs := [4]) (by decide +kernel) (by simp) ?_
        refine AllZ.cons (o := _) rfl ?_ AllZ.nil
        intro K hK
        rw [if_pos (wanted_none (by rfl))]
        (go_simp; go_at_call 71; refine (TX.out _ (RB0.out.below (Below.refl _ _).drew)).mono ?_; rintro e W4 ⟨tv, rfl, hv, hr, hg⟩; have V4 := Lib.hid hv; have RR4 := Lib.hid hr; have GG4 : Hid (w1.grownBy W4 (some rp)) := GR.out.trans ((grown_of_below (Below.refl _ _).drew).trans hg); have OP4 : Hid (W4.heap[gp]? = some (.cells #[.int .u64 seq, .int .i64 t, .int .u32 ten, .slice la k lc] 49 (0, 0))) := grown_block hg OR.out HGP.out.2; have WW4 : Hid (W4.ownsRow w1.heap.size 41 2 (.slice la k lc) k ((L.take k).map Pt.cells).flatten) := (ownsRow_below WR2.out (Below.refl _ _).drew).kept hg (Or.inr (fun e => by have := ((ownsRow_below WR2.out (Below.refl wr.heap.size wr).drew).lt rp e).1; have := SZ.out; have := HRP.out; omega)); have V8S : Hid (∀ W, W4.grownBy W (some rp) → BytesAt 0 W tv s.data.toList) := (fun W hgg => hv.step (fun j hj hor => hgg.block j hj (fun e => by injection e with e; subst e; rcases hor with h | ⟨cs', fr, h⟩; omega; obtain ⟨aa, cc, hh, -⟩ := hr; rw [hh] at h; injection h with h; injection h with _ h _; exact absurd h (by decide)))); clear hv hr hg)
        refine hK.out _ _ ?_ (fun hHeld => ?_)
        · (try dsimp only)
          exact KX4.out _ GG4.out OP4.out
        clear hK K
        (try simp only [Act.put, List.setIfInBounds_toArray, List.set_cons_zero, List.set_cons_succ])
        refine UpTo.ready (rs := [5, 8]) (by decide +kernel) (by simp) ?_
        refine AllZ.cons (o := _) rfl ?_ ?_
        · intro K hK
          rw [if_pos (wanted_none (by rfl))]
          (have CV := conv_bytes V4.out; rw [ba_same] at CV; go_simp; clear CV)
          refine hK.out _ _ ?_ (fun hHeld => ?_)
          · (try dsimp only)
            exact KX4.out _ GG4.out OP4.out
          clear hK K
          (try simp only [Act.put, List.setIfInBounds_toArray, List.set_cons_zero, List.set_cons_succ])
          refine UpTo.ready (rs := [8]) (by decide +kernel) (by simp) ?_
          refine AllZ.cons (o := _) rfl ?_ AllZ.nil
          intro K hK
          rw [if_pos (wanted_none (by rfl))]
          (go_simp; go_at_call 68; refine (IX.out W4 RR4.out).mono ?_; rintro e W8 ⟨rfl, hr, hg⟩; have RR8 := Lib.hid hr; have HG8 := Lib.hid hg; have GG8 : Hid (w1.grownBy W8 (some rp)) := GG4.out.trans hg; have OP8 : Hid (W8.heap[gp]? = some (.cells #[.int .u64 seq, .int .i64 t, .int .u32 ten, .slice la k lc] 49 (0, 0))) := grown_block hg OP4.out HGP.out.2; have WW8 : Hid (W8.ownsRow w1.heap.size 41 2 (.slice la k lc) k ((L.take k).map Pt.cells).flatten) := WW4.out.kept hg (Or.inr (fun e => by have := (WW4.out.lt rp e).1; have := SZ.out; have := HRP.out; omega)); clear hr hg)
          refine hK.out _ _ ?_ (fun hHeld => ?_)
          · (try dsimp only)
            exact KX4.out _ GG8.out OP8.out
          clear hK K
          (try simp only [Act.put, List.setIfInBounds_toArray, List.set_cons_zero, List.set_cons_succ])
          refine PlanZ.start (plan := [9]) (fuel := 4) (by decide +kernel) (by assumption) ?_
          refine PlanZ.free (i := 9) (ds := some 27) (v := ?_) rfl rfl rfl ?_ (fun _ _ _ h => h) ?_
          rotate_left
          · (intro w hSw; (try dsimp only at hSw); go_simp; first | done | with_reducible rfl)
          (try simp only [Act.put, List.setIfInBounds_toArray, List.set_cons_zero, List.set_cons_succ])
          refine PlanZ.stop (fun hHeld => ?_)
          refine UpTo.ready (rs := [10]) (by decide +kernel) (by simp) ?_
          refine AllZ.cons (o := _) rfl ?_ AllZ.nil
          intro K hK
          rw [if_pos (wanted_none (by rfl))]
          (go_simp; obtain ⟨WA, h9⟩ : ∃ W, W = W8.alloc (.cells #[.string s, .int .i64 n] 41) := ⟨_, rfl⟩; rw [← h9]; have bb : Below W8.heap.size W8 WA := (by rw [h9]; exact below_alloc _ _); have SRC : Hid (∀ (j : Nat) (u : Value), [Value.string s, .int .i64 n][j]? = some u → WA.cell? (Addr.add ⟨W8.heap.size, 0, none⟩ j) = some u) := (by rw [h9]; exact new_cells _ _ _); have RRA := Lib.hid (RR8.out.below bb); have GGA : Hid (w1.grownBy WA (some rp)) := GG8.out.trans (grown_of_below bb); have OPA : Hid (WA.heap[gp]? = some (.cells #[.int .u64 seq, .int .i64 t, .int .u32 ten, .slice la k lc] 49 (0, 0))) := stays_block bb OP8.out; have WWA := Lib.hid (ownsRow_below WW8.out bb); have ZA : Hid (w1.heap.size ≤ WA.heap.size) := Nat.le_trans GG8.out.size bb.size; clear h9 bb)
          refine hK.out _ _ ?_ (fun hHeld => ?_)
          · (try dsimp only)
            exact KX4.out _ GGA.out OPA.out
          clear hK K
          (try simp only [Act.put, List.setIfInBounds_toArray, List.set_cons_zero, List.set_cons_succ])
          refine UpTo.ready (rs := [11]) (by decide +kernel) (by simp) ?_
          refine AllZ.cons (o := _) rfl ?_ AllZ.nil
          intro K hK
          rw [if_pos (wanted_none (by rfl))]
          (have hkl := HKL.out; refine wp_appendJ _ _ _ 36 (by rfl) w1.heap.size 41 i0 _ 2 24 Tryz.underlying36 hi hz0 hz1 hz2 rfl (by decide) _ _ _ (by rfl) WWA.out ⟨W8.heap.size, 0, none⟩ 1 1 [.string s, .int .i64 n] (by rfl) rfl SRC.out (fun u hu => by simp at hu; rcases hu with rfl | rfl <;> rfl) (by unfold maxLen; omega) (by omega) ZA.out ?_; intro v11 WB hown hgr; have OPB : Hid (WB.heap[gp]? = some (.cells #[.int .u64 seq, .int .i64 t, .int .u32 ten, .slice la k lc] 49 (0, 0))) := (hgr.block gp (lt_of_block OPA.out) (fun e => own_type WWA.out OPA.out (by decide) e)).trans OPA.out; have RRB := Lib.hid (rd_grown RRA.out WWA.out (by decide) (by have := SZ.out; have := HRP.out; omega) hgr); have GGB : Hid (w1.grownBy WB (some rp)) := GGA.out.andThen hgr (fun j hj => .inl (WWA.out.lt j hj).1); obtain ⟨a11, c11, hv11⟩ := jown_form hown; subst hv11; have WWB : Hid (OwnP WB w1.heap.size (.slice a11 (k + 1) c11) (L.take (k + 1))) := (by show World.ownsRow _ _ _ _ _ _ _; rw [HT.out, List.length_append, List.length_take, Nat.min_eq_left (Nat.le_of_lt hlt), List.map_append, List.flatten_append]; exact hown); clear hown hgr)
          refine hK.out _ _ ?_ (fun hHeld => ?_)
          · (try dsimp only)
            exact KX4.out _ GGB.out OPB.out
          clear hK K
          (try simp only [Act.put, List.setIfInBounds_toArray, List.set_cons_zero, List.set_cons_succ])
          refine PlanZ.start (plan := [12]) (fuel := 1) (by decide +kernel) (by assumption) ?_
          refine PlanZ.free (i := 12) (ds := some 30) (v := ?_) rfl rfl rfl ?_ (fun _ _ _ h => h) ?_
          rotate_left
          · (intro w hSw; (try dsimp only at hSw); go_simp; first | done | with_reducible rfl)
          (try simp only [Act.put, List.setIfInBounds_toArray, List.set_cons_zero, List.set_cons_succ])
          refine PlanZ.stop (fun hHeld => ?_)
          refine UpTo.ready (rs := [13]) (by decide +kernel) (by simp) ?_
          refine AllZ.last (o := _) rfl ?_
          intro K hK
          rw [if_pos (wanted_none (by rfl))]
          (have hf3 : WB.frozen? ⟨gp, 3, none⟩ = false := free_of_row OPB.out; have hc3 : WB.cell? ⟨gp, 3, none⟩ = some (.slice la k lc) := (KX4.out _ GGB.out OPB.out).2; go_simp)
          refine hK.out _ _ ?_
          clear hK K
          (try simp only [Act.put, List.setIfInBounds_toArray, List.set_cons_zero, List.set_cons_succ])
          refine UpTo.done (by decide +kernel) ?_ _
          clear hf3 hc3
          have OPN : Hid ((WB.setCell ⟨gp, 3, none⟩ (.slice a11 (k + 1) c11)).heap[gp]? = some (.cells #[.int .u64 seq, .int .i64 t, .int .u32 ten, .slice a11 (k + 1) c11] 49 (0, 0))) := set_cells OPB.out
          have RRN : Hid (RdS (WB.setCell ⟨gp, 3, none⟩ (.slice a11 (k + 1) c11)) rp ((L.drop (k + 1)).flatMap partL)) := rd_other RRB.out OPB.out (by decide) HGP.out.2
          have GGN : Hid (w1.grownBy (WB.setCell ⟨gp, 3, none⟩ (.slice a11 (k + 1) c11)) (some rp)) := grown_new GGB.out HGP.out.1
          have WWN : Hid (OwnP (WB.setCell ⟨gp, 3, none⟩ (.slice a11 (k + 1) c11)) w1.heap.size (.slice a11 (k + 1) c11) (L.take (k + 1))) := ownsRow_setCell_other WWB.out (fun e => own_type WWB.out OPB.out (by decide) e.symm) _
          go_wp2_with fail
          go_roundw
          case rel => exact ⟨k + 1, _, by omega, by go_num, OPN.out, WWN.out, RRN.out, GGN.out⟩
          case measure => simp [intOf]; omega
        refine AllZ.cons (o := _) rfl ?_ ?_
        · intro K hK
          rw [if_pos (wanted_none (by rfl))]
          (go_simp; go_at_call 68; refine (IX.out W4 RR4.out).mono ?_; rintro e W8 ⟨rfl, hr, hg⟩; have RR8 := Lib.hid hr; have HG8 := Lib.hid hg; have GG8 : Hid (w1.grownBy W8 (some rp)) := GG4.out.trans hg; have OP8 : Hid (W8.heap[gp]? = some (.cells #[.int .u64 seq, .int .i64 t, .int .u32 ten, .slice la k lc] 49 (0, 0))) := grown_block hg OP4.out HGP.out.2; have WW8 : Hid (W8.ownsRow w1.heap.size 41 2 (.slice la k lc) k ((L.take k).map Pt.cells).flatten) := WW4.out.kept hg (Or.inr (fun e => by have := (WW4.out.lt rp e).1; have := SZ.out; have := HRP.out; omega)); clear hr hg)
          refine hK.out _ _ ?_ (fun hHeld => ?_)
          · (try dsimp only)
            exact KX4.out _ GG8.out OP8.out
          clear hK K
          (try simp only [Act.put, List.setIfInBounds_toArray, List.set_cons_zero, List.set_cons_succ])
          refine UpTo.ready (rs := [5]) (by decide +kernel) (by simp) ?_
          refine AllZ.cons (o := _) rfl ?_ AllZ.nil
          intro K hK
          rw [if_pos (wanted_none (by rfl))]
          (have CV := conv_bytes (V8S.out _ HG8.out); rw [ba_same] at CV; go_simp; clear CV)
          refine hK.out _ _ ?_ (fun hHeld => ?_)
          · (try dsimp only)
            exact KX4.out _ GG8.out OP8.out
          clear hK K
          (try simp only [Act.put, List.setIfInBounds_toArray, List.set_cons_zero, List.set_cons_succ])
          refine PlanZ.start (plan := [9]) (fuel := 4) (by decide +kernel) (by assumption) ?_
          refine PlanZ.free (i := 9) (ds := some 27) (v := ?_) rfl rfl rfl ?_ (fun _ _ _ h => h) ?_
          rotate_left
          · (intro w hSw; (try dsimp only at hSw); go_simp; first | done | with_reducible rfl)
          (try simp only [Act.put, List.setIfInBounds_toArray, List.set_cons_zero, List.set_cons_succ])
          refine PlanZ.stop (fun hHeld => ?_)
          refine UpTo.ready (rs := [10]) (by decide +kernel) (by simp) ?_
          refine AllZ.cons (o := _) rfl ?_ AllZ.nil
          intro K hK
          rw [if_pos (wanted_none (by rfl))]
          (go_simp; obtain ⟨WA, h9⟩ : ∃ W, W = W8.alloc (.cells #[.string s, .int .i64 n] 41) := ⟨_, rfl⟩; rw [← h9]; have bb : Below W8.heap.size W8 WA := (by rw [h9]; exact below_alloc _ _); have SRC : Hid (∀ (j : Nat) (u : Value), [Value.string s, .int .i64 n][j]? = some u → WA.cell? (Addr.add ⟨W8.heap.size, 0, none⟩ j) = some u) := (by rw [h9]; exact new_cells _ _ _); have RRA := Lib.hid (RR8.out.below bb); have GGA : Hid (w1.grownBy WA (some rp)) := GG8.out.trans (grown_of_below bb); have OPA : Hid (WA.heap[gp]? = some (.cells #[.int .u64 seq, .int .i64 t, .int .u32 ten, .slice la k lc] 49 (0, 0))) := stays_block bb OP8.out; have WWA := Lib.hid (ownsRow_below WW8.out bb); have ZA : Hid (w1.heap.size ≤ WA.heap.size) := Nat.le_trans GG8.out.size bb.size; clear h9 bb)
          refine hK.out _ _ ?_ (fun hHeld => ?_)
          · (try dsimp only)
            exact KX4.out _ GGA.out OPA.out
          clear hK K
          (try simp only [Act.put, List.setIfInBounds_toArray, List.set_cons_zero, List.set_cons_succ])
          refine UpTo.ready (rs := [11]) (by decide +kernel) (by simp) ?_
          refine AllZ.cons (o := _) rfl ?_ AllZ.nil
          intro K hK
          rw [if_pos (wanted_none (by rfl))]
          (have hkl := HKL.out; refine wp_appendJ _ _ _ 36 (by rfl) w1.heap.size 41 i0 _ 2 24 Tryz.underlying36 hi hz0 hz1 hz2 rfl (by decide) _ _ _ (by rfl) WWA.out ⟨W8.heap.size, 0, none⟩ 1 1 [.string s, .int .i64 n] (by rfl) rfl SRC.out (fun u hu => by simp at hu; rcases hu with rfl | rfl <;> rfl) (by unfold maxLen; omega) (by omega) ZA.out ?_; intro v11 WB hown hgr; have OPB : Hid (WB.heap[gp]? = some (.cells #[.int .u64 seq, .int .i64 t, .int .u32 ten, .slice la k lc] 49 (0, 0))) := (hgr.block gp (lt_of_block OPA.out) (fun e => own_type WWA.out OPA.out (by decide) e)).trans OPA.out; have RRB := Lib.hid (rd_grown RRA.out WWA.out (by decide) (by have := SZ.out; have := HRP.out; omega) hgr); have GGB : Hid (w1.grownBy WB (some rp)) := GGA.out.andThen hgr (fun j hj => .inl (WWA.out.lt j hj).1); obtain ⟨a11, c11, hv11⟩ := jown_form hown; subst hv11; have WWB : Hid (OwnP WB w1.heap.size (.slice a11 (k + 1) c11) (L.take (k + 1))) := (by show World.ownsRow _ _ _ _ _ _ _; rw [HT.out, List.length_append, List.length_take, Nat.min_eq_left (Nat.le_of_lt hlt), List.map_append, List.flatten_append]; exact hown); clear hown hgr)
          refine hK.out _ _ ?_ (fun hHeld => ?_)
          · (try dsimp only)
            exact KX4.out _ GGB.out OPB.out
          clear hK K
          (try simp only [Act.put, List.setIfInBounds_toArray, List.set_cons_zero, List.set_cons_succ])
          refine PlanZ.start (plan := [12]) (fuel := 1) (by decide +kernel) (by assumption) ?_
          refine PlanZ.free (i := 12) (ds := some 30) (v := ?_) rfl rfl rfl ?_ (fun _ _ _ h => h) ?_
          rotate_left
          · (intro w hSw; (try dsimp only at hSw); go_simp; first | done | with_reducible rfl)
          (try simp only [Act.put, List.setIfInBounds_toArray, List.set_cons_zero, List.set_cons_succ])
          refine PlanZ.stop (fun hHeld => ?_)
          refine UpTo.ready (rs := [13]) (by decide +kernel) (by simp) ?_
          refine AllZ.last (o := _) rfl ?_
          intro K hK
          rw [if_pos (wanted_none (by rfl))]
          (have hf3 : WB.frozen? ⟨gp, 3, none⟩ = false := free_of_row OPB.out; have hc3 : WB.cell? ⟨gp, 3, none⟩ = some (.slice la k lc) := (KX4.out _ GGB.out OPB.out).2; go_simp)
          refine hK.out _ _ ?_
          clear hK K
          (try simp only [Act.put, List.setIfInBounds_toArray, List.set_cons_zero, List.set_cons_succ])
          refine UpTo.done (by decide +kernel) ?_ _
          clear hf3 hc3
          have OPN : Hid ((WB.setCell ⟨gp, 3, none⟩ (.slice a11 (k + 1) c11)).heap[gp]? = some (.cells #[.int .u64 seq, .int .i64 t, .int .u32 ten, .slice a11 (k + 1) c11] 49 (0, 0))) := set_cells OPB.out
          have RRN : Hid (RdS (WB.setCell ⟨gp, 3, none⟩ (.slice a11 (k + 1) c11)) rp ((L.drop (k + 1)).flatMap partL)) := rd_other RRB.out OPB.out (by decide) HGP.out.2
          have GGN : Hid (w1.grownBy (WB.setCell ⟨gp, 3, none⟩ (.slice a11 (k + 1) c11)) (some rp)) := grown_new GGB.out HGP.out.1
          have WWN : Hid (OwnP (WB.setCell ⟨gp, 3, none⟩ (.slice a11 (k + 1) c11)) w1.heap.size (.slice a11 (k + 1) c11) (L.take (k + 1))) := ownsRow_setCell_other WWB.out (fun e => own_type WWB.out OPB.out (by decide) e.symm) _
          go_wp2_with fail
          go_roundw
          case rel => exact ⟨k + 1, _, by omega, by go_num, OPN.out, WWN.out, RRN.out, GGN.out⟩
          case measure => simp [intOf]; omega
        exact AllZ.nil
      · have dk : decide ((k : Int) < ((L.length : Nat) : Int)) = false := decide_eq_false (by omega)
        have hkl : L.take k = L := List.take_of_length_le (by omega)
        have WL := WR.out
        rw [hkl] at WL
        have RL := RR.out
        rw [List.drop_eq_nil_of_le (by omega)] at RL
        obtain ⟨la, lc, rfl⟩ := ownP_slice WL rfl
        have OZ := grown_block GR.out OO.out (by have := HRP.out; omega : w.heap.size + 1 ≠ rp)
        have hor := OR.out
        have hne : w.heap.size + 1 ≠ rp := by have := HRP.out; omega
        have HWR : Hid (w.grownBy wr (some rp)) := (grown_of_below B1.out).trans GR.out
        have hf0 : wr.frozen? ⟨w.heap.size + 1, 0, none⟩ = false := free_of_row OZ
        have hf1 : wr.frozen? ⟨w.heap.size + 1, 1, none⟩ = false := free_of_row OZ
        have hf2 : wr.frozen? ⟨w.heap.size + 1, 2, none⟩ = false := free_of_row OZ
        have hf3 : wr.frozen? ⟨w.heap.size + 1, 3, none⟩ = false := free_of_row OZ
        have hg0 : wr.cell? ⟨w.heap.size + 1, 0, none⟩ = some (.int .u64 0) := by rw [cell_of_row OZ]; rfl
        have hg1 : wr.cell? ⟨w.heap.size + 1, 1, none⟩ = some (.int .i64 0) := by rw [cell_of_row OZ]; rfl
        have hg2 : wr.cell? ⟨w.heap.size + 1, 2, none⟩ = some (.int .u32 0) := by rw [cell_of_row OZ]; rfl
        have hg3 : wr.cell? ⟨w.heap.size + 1, 3, none⟩ = some (.slice none 0 0) := by rw [cell_of_row OZ]; rfl
        have hc0 : wr.cell? ⟨gp, 0, none⟩ = some (.int .u64 seq) := by rw [cell_of_row hor]; rfl
        have hc1 : wr.cell? ⟨gp, 1, none⟩ = some (.int .i64 t) := by rw [cell_of_row hor]; rfl
        have hc2 : wr.cell? ⟨gp, 2, none⟩ = some (.int .u32 ten) := by rw [cell_of_row hor]; rfl
        have hc3 : wr.cell? ⟨gp, 3, none⟩ = some (.slice la L.length lc) := by rw [cell_of_row hor]; rfl
        have o1 := set_cells (k := 0) (u := .int .u64 seq) OZ
        have o2 := set_cells (k := 1) (u := .int .i64 t) o1
        have o3 := set_cells (k := 2) (u := .int .u32 ten) o2
        have nt : ∀ W : World, ∀ cs, W.heap[w.heap.size + 1]? = some (.cells cs 49 (0, 0)) → OwnP W w1.heap.size (.slice la L.length lc) L → (Value.slice la L.length lc).ownBlock ≠ some (w.heap.size + 1) := fun W cs h1 h2 e => own_type h2 h1 (by decide) e.symm
        have w1o := ownsRow_setCell_other (a := ⟨w.heap.size + 1, 0, none⟩) WL (nt _ _ OZ WL) (.int .u64 seq)
        have w2o := ownsRow_setCell_other (a := ⟨w.heap.size + 1, 1, none⟩) w1o (nt _ _ o1 w1o) (.int .i64 t)
        have w3o := ownsRow_setCell_other (a := ⟨w.heap.size + 1, 2, none⟩) w2o (nt _ _ o2 w2o) (.int .u32 ten)
        have w4o := ownsRow_setCell_other (a := ⟨w.heap.size + 1, 3, none⟩) w3o (nt _ _ o3 w3o) (.slice la L.length lc)
        obtain ⟨WF, hWF⟩ : ∃ W, W = ((((wr.setCell ⟨w.heap.size + 1, 0, none⟩ (.int .u64 seq)).setCell ⟨w.heap.size + 1, 1, none⟩ (.int .i64 t)).setCell ⟨w.heap.size + 1, 2, none⟩ (.int .u32 ten)).setCell ⟨w.heap.size + 1, 3, none⟩ (.slice la L.length lc)) := ⟨_, rfl⟩
        have FR : Hid (OwnP WF w.heap.size (.slice la L.length lc) L) := by rw [hWF]; exact own_base B1.out.size w4o
        have FD : Hid (RdS WF rp []) := by rw [hWF]; exact rd_four RL OZ (by decide) hne
        have FG : Hid (w.grownBy WF (some rp)) := by rw [hWF]; exact grown_new (grown_new (grown_new (grown_new HWR.out (Nat.le_succ _)) (Nat.le_succ _)) (Nat.le_succ _)) (Nat.le_succ _)
        have FB : WF.heap[w.heap.size + 1]? = some (.cells #[.int .u64 seq, .int .i64 t, .int .u32 ten, .slice la L.length lc] 49 (0, 0)) := by rw [hWF]; exact box4_set OZ
        have FL := Lib.hid (post_load FB)
        clear hkl WL RL OZ hor hne o1 o2 o3 nt w1o w2o w3o w4o FB WR RR OR
        go_wp2_with fail
        rw [← hWF]
        clear hWF
        (try simp only [Exit.inBlock, Exit.then])
        refine bodyPost_ret (v := .agg #[.int .u64 seq, .int .i64 t, .int .u32 ten, .slice la L.length lc]) ?_ rfl ⟨_, rfl, FR.out, FD.out, FG.out⟩
        rw [results_cell1 rfl]
        exact FL.out
end Go.Proofs.YtecbnhmnhcpcmaaGreatDoor
