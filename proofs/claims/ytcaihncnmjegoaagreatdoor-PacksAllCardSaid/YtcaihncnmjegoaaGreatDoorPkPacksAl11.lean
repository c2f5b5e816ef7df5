/- What a reader takes of what was put: numbers, texts. The walks of slices.Clone over parts, and of journal.Neg. The walk of entry.GetPosting's closure: a posting is read back. (Printed by gen_jwf.py.) The walks of entry.read and entry.GetPosting, of journal.Get of what was posted. The walks of kv.Key with two numbers, entry.PutPack, entry.GetPack. (Printed by gen_paa.py.) -/
import Derived.Test.YtcaihncnmjegoaaGreatDoorPkPacksAl10
import Derived.Test.YtcaihncnmjegoaaGreatDoorPkPacksAl8
import Derived.Deep.Cut
import Derived.Deep.CutRange
import Derived.Laws.ResultCell
/-! What a reader takes of what was put: numbers, texts. -/
namespace Go.Proofs.YtcaihncnmjegoaaGreatDoor
open Go.RowKit Go.WideMaps Go.Maps
set_option linter.unusedVariables false
set_option linter.unusedSimpArgs false
set_option maxRecDepth 100000
theorem big_take (x : Nat) (r : Bs) : (big8 x ++ r).take 8 = big8 x ∧ (big8 x ++ r).drop 8 = r := ⟨rfl, rfl⟩
def Got (rp : Nat) (r : Bs) (x : Value) (w : World) (e : Ending) (w' : World) : Prop := e = .returned x ∧ RdS w' rp r ∧ w.grownBy w' (some rp)
theorem int_at {rp : Nat} {t : Int} {r : Bs} (w : World) (hR : RdS w rp (big8 (toU t) ++ r)) (ht : Acct.inInt t) : Calls Tryz.prog 45 #[.pointer (some ⟨rp, 0, none⟩)] w (Got rp r (.int .i64 t) w) := by
  have h := rdint_any w hR (by rw [List.length_append]; show 8 ≤ 8 + _; omega)
  rw [(big_take _ r).1, unbig_big _ (toU_lt t), wrap_back t ht] at h
  exact h
theorem small_at {rp x : Nat} {r : Bs} (w : World) (hR : RdS w rp (big8 x ++ r)) (hx : x < 4294967296) : Calls Tryz.prog 44 #[.agg #[.pointer (some ⟨rp, 0, none⟩)]] w (Got rp r (.int .u32 x) w) :=
  rdsmall_any w hR (by rw [List.length_append]; show 8 ≤ 8 + _; omega) (by rw [(big_take x r).1, unbig_big x (by omega)]) hx
end Go.Proofs.YtcaihncnmjegoaaGreatDoor

/-! The walks of slices.Clone over parts, and of journal.Neg. -/
namespace Go.Proofs.YtcaihncnmjegoaaGreatDoor
open Go.RowKit Go.WideMaps Go.Maps
set_option linter.unusedVariables false
set_option linter.unusedSimpArgs false
set_option maxRecDepth 100000
/-- parts in a row of one's own -/
abbrev OwnP (w : World) (base : Nat) (v : Value) (L : List Pt) : Prop := w.ownsRow base 30 2 v L.length (L.map Pt.cells).flatten
theorem OwnP.rows {w : World} {base : Nat} {v : Value} {L : List Pt} (h : OwnP w base v L) : RowsIn w v 2 (L.map Pt.cells) := jrows_own (pt_rows _) (by rw [List.length_map]; exact h)
theorem pts_set : ∀ (L : List Pt) (k : Nat) (q : Pt) (x : Int), L[k]? = some q → ((L.map Pt.cells).flatten).set (k * 2 + 1) (.int .i64 x) = ((L.set k ⟨q.a, x⟩).map Pt.cells).flatten
  | [], k, q, x, h => by simp at h
  | p :: r, 0, q, x, h => by
    simp at h
    subst h
    rfl
  | p :: r, k + 1, q, x, h => by
    have ih := pts_set r k q x (by simpa using h)
    rw [List.map_cons, List.flatten_cons, List.set_cons_succ, List.map_cons, List.flatten_cons, ← ih, show (k + 1) * 2 + 1 = (k * 2 + 1) + 2 from by omega]
    rfl
theorem OwnP.set {w : World} {base : Nat} {g n cap : Nat} {L : List Pt} {k : Nat} {q : Pt} {x : Int} (h : OwnP w base (.slice (some ⟨g, 0, none⟩) n cap) L) (hk : L[k]? = some q) : OwnP (w.setCell ⟨g, k * 2 + 1, none⟩ (.int .i64 x)) base (.slice (some ⟨g, 0, none⟩) n cap) (L.set k ⟨q.a, x⟩) := by
  obtain ⟨hl, ⟨h1, -⟩ | ⟨g', cap', cur, h1, h2, h3, h4, h5, h6, h7⟩⟩ := h
  · cases h1
  injection h1 with h1 hn hc
  injection h1 with h1
  injection h1 with h1 _ _
  subst h1 hn hc
  have hkl : k < L.length := by
    rcases Nat.lt_or_ge k L.length with h | h
    · exact h
    · rw [List.getElem?_eq_none h] at hk; cases hk
  refine ⟨by rw [pts_len, List.length_set], .inr ⟨g, cap, cur.setIfInBounds (k * 2 + 1) (.int .i64 x), by rw [List.length_set], h2, ?_, by rw [List.length_set]; exact h4, h5, by simpa using h6, ?_⟩⟩
  · unfold World.setCell
    simp only [Array.getElem?_modify, if_true, h3]
    rfl
  · rw [List.length_set, ← pts_set L k q x hk, ← h7]
    simp [List.take_set]
theorem OwnP.form {w : World} {base : Nat} {v : Value} {L : List Pt} (h : OwnP w base v L) : (v = .slice none 0 0 ∧ L = []) ∨ ∃ g cap, v = .slice (some ⟨g, 0, none⟩) L.length cap ∧ base ≤ g ∧ g < w.heap.size ∧ ∀ j, w.frozen? ⟨g, j, none⟩ = false := by
  obtain ⟨hl, ⟨h1, h0⟩ | ⟨g', cap', cur, h1, h2, h3, -⟩⟩ := h
  · exact .inl ⟨h1, List.eq_nil_of_length_eq_zero h0⟩
  · exact .inr ⟨g', cap', h1, h2, lt_of_block h3, fun j => free_of_row h3⟩
end Go.Proofs.YtcaihncnmjegoaaGreatDoor

/-! The walk of entry.GetPosting's closure: a posting is read back. (Printed by gen_jwf.py.) -/
namespace Go.Proofs.YtcaihncnmjegoaaGreatDoor
open Go.RowKit Go.WideMaps Go.Maps
set_option linter.unusedVariables false
set_option linter.unusedSimpArgs false
set_option maxRecDepth 100000
theorem grown_of_below {w w' : World} {r : Option Nat} (hb : Below w.heap.size w w') : w.grownBy w' r := ⟨hb.os, hb.tape, hb.output, hb.size, fun k hk _ => hb.block k hk⟩
theorem grown_block {w w' : World} {rp k : Nat} {ob : Obj} (hg : w.grownBy w' (some rp)) (h : w.heap[k]? = some ob) (hne : k ≠ rp) : w'.heap[k]? = some ob := (hg.block k (lt_of_block h) (fun e => hne (by injection e))).trans h
theorem grown_new {w w' : World} {rp gp k : Nat} {u : Value} (h : w.grownBy w' (some rp)) (hg : w.heap.size ≤ gp) : w.grownBy (w'.setCell ⟨gp, k, none⟩ u) (some rp) := by
  have k2 := Kept.setCell (S := fun k => k = gp) w' ⟨gp, k, none⟩ u rfl
  refine ⟨k2.os.trans h.os, k2.tape.trans h.tape, k2.output.trans h.output, Nat.le_trans h.size k2.size, fun i hi hne => ?_⟩
  rw [k2.block i (Nat.lt_of_lt_of_le hi h.size) (by omega)]
  exact h.block i hi hne
theorem rd_stp {w w' : World} {rp : Nat} {bs : Bs} (h : RdS w rp bs) (hs : Stp 0 w w') (hr : w'.heap[rp]? = w.heap[rp]?) : RdS w' rp bs := by
  obtain ⟨a, c, h1, h2, h3, h4⟩ := h
  exact ⟨a, c, hr.trans h1, h2.step hs, h3, h4⟩
theorem rd_other {w : World} {rp gp k T : Nat} {bs : Bs} {u : Value} {cs : Array Value} (h : RdS w rp bs) (ho : w.heap[gp]? = some (.cells cs T (0, 0))) (hT : T ≠ 5) (hne : gp ≠ rp) : RdS (w.setCell ⟨gp, k, none⟩ u) rp bs := by
  have k2 := Kept.setCell (S := fun k => k = gp) w ⟨gp, k, none⟩ u rfl
  have hlt : rp < w.heap.size := by obtain ⟨a, c, h1, -⟩ := h; exact lt_of_block h1
  refine rd_stp h (fun j hj hor => k2.block j hj fun e => ?_) (k2.block rp hlt (Ne.symm hne))
  rcases hor with h | ⟨cs', fr, h⟩
  · omega
  · rw [e, ho] at h
    injection h with h
    injection h with _ h _
    exact hT h
end Go.Proofs.YtcaihncnmjegoaaGreatDoor

/-! The walks of entry.read and entry.GetPosting, of journal.Get of what was posted. -/
namespace Go.Proofs.YtcaihncnmjegoaaGreatDoor
open Go.RowKit Go.WideMaps Go.Maps
set_option linter.unusedVariables false
set_option linter.unusedSimpArgs false
set_option maxRecDepth 100000
set_option maxHeartbeats 1000000 in
theorem wdone_any {rp : Nat} (w : World) (hR : RdS w rp []) : Calls Tryz.prog 68 #[.pointer (some ⟨rp, 0, none⟩)] w fun e w' => e = .returned (.int .i64 0) ∧ w = w' := by
  obtain ⟨a, c, h1, -, -, -⟩ := hR
  have c0 : w.cell? ⟨rp, 0, none⟩ = some (.slice a 0 c) := by rw [cell_of_row h1]; rfl
  have c1 : w.cell? ⟨rp, 1, none⟩ = some (.bool false) := by rw [cell_of_row h1]; rfl
  clear h1
  go_enter Tryz.func68, Tryz.ntmps68
  go_wp2_with fail
  go_ret
  exact ⟨rfl, rfl⟩
theorem below_of_grown {w w' : World} {rp b : Nat} (hg : w.grownBy w' (some rp)) (hb : b ≤ rp) (hw : b ≤ w.heap.size) : Below b w w' :=
  ⟨hg.os, hg.tape, hg.output, hg.size, fun k hk => hg.block k (by omega) fun e => by injection e with e; omega⟩
end Go.Proofs.YtcaihncnmjegoaaGreatDoor

/-! The walks of kv.Key with two numbers, entry.PutPack, entry.GetPack. (Printed by gen_paa.py.) -/
namespace Go.Proofs.YtcaihncnmjegoaaGreatDoor
open Go.RowKit Go.WideMaps Go.Maps
set_option linter.unusedVariables false
set_option linter.unusedSimpArgs false
set_option maxRecDepth 100000
/-- a pack's bytes -/
def packL (id : Nat) (ex : Int) : Bs := big8 id ++ big8 (toU ex)
set_option maxHeartbeats 1000000 in
theorem key2_any (kind : UInt8) (x y g : Nat) (w : World) (hx : x < 18446744073709551616) (hy : y < 18446744073709551616) (hc : w.cell? ⟨g, 0, none⟩ = some (.int .u64 x)) (hc2 : w.cell? ⟨g, 1, none⟩ = some (.int .u64 y)) : Calls Tryz.prog 18 #[.int .u8 kind.toNat, .slice (some ⟨g, 0, none⟩) 2 2] w fun e w' => ∃ v', e = .returned v' ∧ BytesAt 0 w' v' (kind :: (big8 x ++ big8 y)) ∧ Below w.heap.size w w' := by
  have OA : Hid ((w.alloc (.cells #[.int .u8 kind.toNat] 5)).ownsRow w.heap.size 5 1 (.slice (some ⟨w.heap.size, 0, none⟩) 1 1) [kind].length (bytesV [kind])) :=
    ⟨rfl, .inr ⟨w.heap.size, 1, #[.int .u8 kind.toNat], rfl, Nat.le_refl _, heap_alloc_new _ _, Nat.le_refl _, by unfold maxLen; omega, rfl, rfl⟩⟩
  have BA := Lib.hid (below_alloc w (.cells #[.int .u8 kind.toNat] 5))
  have KC : Hid (∀ W, Below w.heap.size w W → W.cell? ⟨g, 0, none⟩ = some (.int .u64 x) ∧ W.cell? ⟨g, 1, none⟩ = some (.int .u64 y)) := fun W hb => ⟨stays hb hc, stays hb hc2⟩
  have hsz : w.heap.size ≤ (w.alloc (.cells #[.int .u8 kind.toNat] 5)).heap.size := BA.out.size
  clear hc hc2
  go_enter Tryz.func18, Tryz.ntmps18
  go_wp2_with fail
  generalize w.alloc (.cells #[.int .u8 kind.toNat] 5) = W1 at *
  go_loopw [5, 12] (fun bv iv wr => ∃ i : Nat, i ≤ 2 ∧ iv = .int .i64 i ∧ Hid (wr.ownsRow w.heap.size 5 1 bv (kind :: ((big8 x ++ big8 y).take (8 * i))).length (bytesV (kind :: ((big8 x ++ big8 y).take (8 * i))))) ∧ Hid (Below w.heap.size w wr)) (fun _ iv _ => 2 - (intOf iv).toNat)
  case atStart => exact ⟨0, by omega, rfl, OA.out, BA.out⟩
  case round =>
    obtain ⟨i, hi, rfl, OR, BR⟩ := hrel
    obtain ⟨z0, z1⟩ := KC.out _ BR.out
    have hs := BR.out.size
    match i, hi with
    | 0, _ =>
      go_wp2_with fail
      refine (big_any w.heap.size _ [kind] x _ hx OR.out (by omega) (by simp)).mono ?_
      rintro e w2 ⟨v2, rfl, ho, hg, hn⟩
      have H2 : Hid (w2.ownsRow w.heap.size 5 1 v2 (kind :: ((big8 x ++ big8 y).take (8 * 1))).length (bytesV (kind :: ((big8 x ++ big8 y).take (8 * 1))))) := ho
      have B2 := Lib.hid (BR.out.grown hg BR.out.size (fun k hk => (OR.out.lt k hk).1))
      clear ho hg hn z0 z1
      go_wp2_with fail
      go_roundw
      case rel => exact ⟨1, by omega, by go_num, H2.out, B2.out⟩
      case measure => simp [intOf]
    | 1, _ =>
      go_wp2_with fail
      refine (big_any w.heap.size _ (kind :: big8 x) y _ hy OR.out (by omega) (by simp [big8])).mono ?_
      rintro e w2 ⟨v2, rfl, ho, hg, hn⟩
      have H2 : Hid (w2.ownsRow w.heap.size 5 1 v2 (kind :: ((big8 x ++ big8 y).take (8 * 2))).length (bytesV (kind :: ((big8 x ++ big8 y).take (8 * 2))))) := ho
      have B2 := Lib.hid (BR.out.grown hg BR.out.size (fun k hk => (OR.out.lt k hk).1))
      clear ho hg hn z0 z1
      go_wp2_with fail
      go_roundw
      case rel => exact ⟨2, by omega, by go_num, H2.out, B2.out⟩
      case measure => simp [intOf]
    | 2, _ =>
      have HB : Hid (BytesAt 0 wr u5 (kind :: (big8 x ++ big8 y))) := BytesAt.of_own OR.out
      clear z0 z1
      go_wp2_with fail
      go_ret
      exact ⟨_, rfl, HB.out, BR.out⟩
    | (i + 3), h => omega
set_option maxHeartbeats 1000000 in
theorem putpack_any (id : Nat) (ex : Int) (w : World) (hid : id < 4294967296) (hex : Acct.inInt ex) : Calls Tryz.prog 19 #[.agg #[.int .u32 id, .int .i64 ex]] w fun e w' => ∃ v, e = .returned v ∧ BytesAt 0 w' v (packL id ex) ∧ Below w.heap.size w w' := by
  obtain ⟨w1, hw1⟩ : ∃ W, W = w.alloc (.cells #[.int .u32 id, .int .i64 ex] 32) := ⟨_, rfl⟩
  have h1 : w1.heap[w.heap.size]? = some (.cells #[.int .u32 id, .int .i64 ex] 32 (0, 0)) := by rw [hw1]; exact alloc_block _ _ _ _
  have hb1 : Below w.heap.size w w1 := by rw [hw1]; exact below_alloc _ _
  have B1 := Lib.hid hb1
  have KX : Hid (∀ W, Below w1.heap.size w1 W → W.cell? ⟨w.heap.size, 0, none⟩ = some (.int .u32 id) ∧ W.cell? ⟨w.heap.size, 1, none⟩ = some (.int .i64 ex)) := fun W hb => part_cells2 (stays_block hb h1)
  have hcv : IntKind.u64.wrap (id : Int) = (id : Int) := by
    have e : ∀ z : Int, IntKind.u64.wrap z = z % 18446744073709551616 := fun _ => rfl
    rw [e]; omega
  clear h1 hb1
  go_enter Tryz.func19, Tryz.ntmps19
  go_upto_region 1 with fail
  rw [← hw1]
  clear hw1
  refine wp_region_held_drew (S := (fun W => W.cell? ⟨w.heap.size, 0, none⟩ = some (.int .u32 id) ∧ W.cell? ⟨w.heap.size, 1, none⟩ = some (.int .i64 ex))) (by kernel_rfl) ?_ (fun hHeld => ?_)
  · (try dsimp only)
    exact KX.out _ ((Below.refl _ _).drew)
  refine Plan.start (plan := [0, 1, 2, 4, 5]) (fuel := 3) (by decide +kernel) (by assumption) ?_
  refine Plan.free (i := 0) (ds := some 3) (v := ?_) rfl rfl rfl ?_ (fun _ _ _ h => h) ?_
  rotate_left
  · (intro w hSw; (try dsimp only at hSw); go_simp; first | done | with_reducible rfl)
  (try simp only [Act.put, List.setIfInBounds_toArray, List.set_cons_zero, List.set_cons_succ])
  refine Plan.free (i := 1) (ds := some 4) (v := ?_) rfl rfl rfl ?_ (fun _ _ _ h => h) ?_
  rotate_left
  · (intro w hSw; (try dsimp only at hSw); go_simp; first | done | with_reducible rfl)
  (try simp only [Act.put, List.setIfInBounds_toArray, List.set_cons_zero, List.set_cons_succ])
  refine Plan.free (i := 2) (ds := some 5) (v := ?_) rfl rfl rfl ?_ (fun _ _ _ h => h) ?_
  rotate_left
  · (intro w hSw; (try dsimp only at hSw); go_simp; first | done | with_reducible rfl)
  (try simp only [Act.put, List.setIfInBounds_toArray, List.set_cons_zero, List.set_cons_succ])
  refine Plan.free (i := 4) (ds := some 7) (v := ?_) rfl rfl rfl ?_ (fun _ _ _ h => h) ?_
  rotate_left
  · (intro w hSw; (try dsimp only at hSw); go_simp; first | done | with_reducible rfl)
  (try simp only [Act.put, List.setIfInBounds_toArray, List.set_cons_zero, List.set_cons_succ])
  refine Plan.free (i := 5) (ds := some 8) (v := ?_) rfl rfl rfl ?_ (fun _ _ _ h => h) ?_
  rotate_left
  · (intro w hSw; (try dsimp only at hSw); go_simp; first | done | with_reducible rfl)
  (try simp only [Act.put, List.setIfInBounds_toArray, List.set_cons_zero, List.set_cons_succ])
  refine Plan.stop (fun hHeld => ?_)
  refine wpAnyH_ready (rs := [3]) (by decide +kernel) (by simp) ?_
  refine AllReadyH.cons (o := _) rfl ?_ AllReadyH.nil
  intro K hK
  rw [if_pos (wanted_none (by rfl))]
  (go_simp; go_at_call 31; refine (wuint_any 0 (.slice none 0 0) [] id _ (nil_bytes _) (by simp) (by omega)).mono ?_; rintro e W3 ⟨v3, rfl, h3, hb⟩; have V3 := Lib.hid h3; have B3 : Hid (Below w1.heap.size w1 W3) := onward hb ((Below.refl _ _).drew); clear h3 hb)
  refine hK.out _ _ ?_ (fun hHeld => ?_)
  · (try dsimp only)
    exact KX.out _ B3.out
  clear hK K
  (try simp only [Act.put, List.setIfInBounds_toArray, List.set_cons_zero, List.set_cons_succ])
  refine wpAnyH_ready (rs := [6]) (by decide +kernel) (by simp) ?_
  refine AllReadyH.cons (o := _) rfl ?_ AllReadyH.nil
  intro K hK
  rw [if_pos (wanted_none (by rfl))]
  (go_simp; go_at_call 30; refine (wint_any 0 v3 _ ex W3 V3.out (by simp [big8])).mono ?_; rintro e W6 ⟨v6, rfl, h6, hb⟩; have V6 := Lib.hid h6; have B6 : Hid (Below w1.heap.size w1 W6) := onward hb B3.out; clear h6 hb)
  refine hK.out _ _ ?_ (fun hHeld => ?_)
  · (try dsimp only)
    exact KX.out _ B6.out
  clear hK K
  (try simp only [Act.put, List.setIfInBounds_toArray, List.set_cons_zero, List.set_cons_succ])
  refine Plan.start (plan := [7]) (fuel := 0) (by decide +kernel) (by assumption) ?_
  refine Plan.free (i := 7) (ds := some 2) (v := ?_) rfl rfl rfl ?_ (fun _ _ _ h => h) ?_
  rotate_left
  · (intro w hSw; (try dsimp only at hSw); go_simp; first | done | with_reducible rfl)
  (try simp only [Act.put, List.setIfInBounds_toArray, List.set_cons_zero, List.set_cons_succ])
  refine Plan.stop (fun hHeld => ?_)
  refine wpAnyH_done (by decide +kernel) ?_ _
  go_wp2_with fail
  go_ret
  exact ⟨_, rfl, V6.out, onward B6.out B1.out⟩
end Go.Proofs.YtcaihncnmjegoaaGreatDoor

