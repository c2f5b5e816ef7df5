/- The walk of the law JournalOrder. (Printed by gen_job.py.) -/
import Derived.Test.YtecbnhmnhcpcmaaDoorJoA
namespace Go.Proofs.YtecbnhmnhcpcmaaDoor
open Go.RowKit Go.WideMaps Go.Maps
set_option linter.unusedVariables false
set_option linter.unusedSimpArgs false
set_option maxRecDepth 100000
theorem turn_perm {α : Type} (l : List α) (k : Nat) : l.Perm (l.drop k ++ l.take k) := by
  have h : (l.take k ++ l.drop k).Perm (l.drop k ++ l.take k) := List.perm_append_comm
  rw [List.take_append_drop] at h
  exact h
set_option maxHeartbeats 1000000 in
theorem order_any (lv : Value) (L : List Ac) (t : Int) (tn : Nat) (pa : Option Addr) (pc : Nat) (ps : List Pt) (by8 : Nat) (w : World) (hE : EnvA w) (hl : RowsIn w lv 3 (L.map Ac.cells)) (ho : ∀ a ∈ L, a.ok w)
    (hx : (⟨t, tn, .slice pa ps.length pc, ps⟩ : Ac).ok w) (hb : by8 < 256) :
    Calls Tryd.prog 3 #[lv, .agg #[.int .i64 t, .int .u32 tn, .slice pa ps.length pc], .int .u8 by8] w fun e w' => e = .returned (.bool true) ∧ Below w.heap.size w w' := by
  obtain ⟨a, c, rfl⟩ := ac_form hl
  obtain ⟨w1, hw1⟩ : ∃ W, W = w.alloc (.cells #[.int .i64 t, .int .u32 tn, .slice pa ps.length pc] 26) := ⟨_, rfl⟩
  have hb1 : Below w.heap.size w w1 := by rw [hw1]; exact below_alloc _ _
  have hob : w1.heap[w.heap.size]? = some (.cells #[.int .i64 t, .int .u32 tn, .slice pa ps.length pc] 26 (0, 0)) := by rw [hw1]; exact alloc_block _ _ _ _
  obtain ⟨y0, y1, y2⟩ := box3c hob
  have B1 := Lib.hid hb1
  have HE := Lib.hid (hE.below hb1)
  have HL := Lib.hid (hl.below hb1)
  have HO : Hid (∀ a ∈ L, a.ok w1) := fun a ha => (ho a ha).below hb1
  have HX := Lib.hid (hx.below hb1)
  have KX : Hid (∀ W, Below w1.heap.size w1 W → W.cell? ⟨w.heap.size, 0, none⟩ = some (.int .i64 t) ∧ W.cell? ⟨w.heap.size, 1, none⟩ = some (.int .u32 tn) ∧ W.cell? ⟨w.heap.size, 2, none⟩ = some (.slice pa ps.length pc)) := by
    have q0 := y0; have q1 := y1; have q2 := y2
    exact fun W hb => ⟨stays hb q0, stays hb q1, stays hb q2⟩
  have HB := Lib.hid hb
  clear hl ho hE hx hob hb hb1
  have hn : ps.length = 0 ∨ 0 < ps.length := by omega
  go_enter Tryd.func3, Tryd.ntmps3
  go_wp2_with fail
  rw [← hw1]
  clear hw1
  refine (great_any _ L w1 HL.out HO.out).mono ?_
  rintro e w1' ⟨b, rfl, hb, rfl⟩
  cases b with
  | true =>
    clear hb
    rcases hn with hn | hn
    · have hl0 : ((ps.length : Nat) : Int) = 0 := by rw [hn]; rfl
      clear hn
      go_wp2_with fail
      refine (posts17_any w1 HE.out).mono ?_
      rintro e w2 ⟨rfl, hb2⟩
      have B2 := Lib.hid (onward hb2 B1.out)
      clear hb2
      go_wp2_with fail
      go_ret
      exact ⟨rfl, B2.out⟩
    · have hne : ((ps.length : Nat) : Int) ≠ 0 := by omega
      clear hn
      go_wp2_with fail
      go_ret
      exact ⟨rfl, B1.out⟩
  | false =>
  obtain ⟨h60, hsm⟩ := hb rfl
  have HS := Lib.hid hsm
  have H60 := Lib.hid h60
  clear hb hsm h60
  go_wp2_with fail
  obtain ⟨w2, hw2⟩ : ∃ W, W = w1.alloc (.cells #[.int .i64 t, .int .u32 tn, .slice pa ps.length pc] 26) := ⟨_, rfl⟩
  rw [← hw2]
  have hb2 : Below w1.heap.size w1 w2 := by rw [hw2]; exact below_alloc _ _
  have hob : w2.heap[w1.heap.size]? = some (.cells (⟨t, tn, .slice pa ps.length pc, ps⟩ : Ac).cells.toArray 26 (0, 0)) := by rw [hw2]; exact alloc_block _ _ _ _
  have HX2 := Lib.hid (HX.out.below hb2)
  have GX := Lib.hid (great_any _ [⟨t, tn, .slice pa ps.length pc, ps⟩] w2 (act_row hob) (fun a ha => by simp at ha; subst ha; exact HX2.out))
  have B2 := Lib.hid hb2
  obtain ⟨z0, z1, z2⟩ := KX.out w2 hb2
  clear hw2 hob hb2 y0 y1 y2
  refine GX.out.mono ?_
  rintro e w2' ⟨b, rfl, hb, rfl⟩
  clear GX
  rcases hn with hn | hn
  · have hl0 : ((ps.length : Nat) : Int) = 0 := by rw [hn]; rfl
    clear hn hb
    have HE2 := Lib.hid (HE.out.below B2.out)
    cases b <;>
    · go_wp2_with fail
      refine (posts17_any w2 HE2.out).mono ?_
      rintro e w3 ⟨rfl, hb2⟩
      have B3 := Lib.hid (onward hb2 (onward B2.out B1.out))
      clear hb2
      go_wp2_with fail
      go_ret
      exact ⟨rfl, B3.out⟩
  have hne : ((ps.length : Nat) : Int) ≠ 0 := by omega
  have HN := Lib.hid hn
  clear hn
  cases b with
  | true =>
    clear hb
    go_wp2_with fail
    go_ret
    exact ⟨rfl, onward B2.out B1.out⟩
  | false =>
  have H2 : Hid ((⟨t, tn, .slice pa ps.length pc, ps⟩ : Ac).small) := (hb rfl).2 _ (by simp)
  clear hb
  go_wp2_with fail
  refine (made_any _ L w2 (HE.out.below B2.out) (HL.out.below B2.out) (fun a ha => (HO.out a ha).below B2.out) H60.out HS.out).mono ?_
  rintro e w3 ⟨p, b1, b2, dv, rfl, hm, -, hb3, hp, hb1, hb2⟩
  have B3 : Hid (Below w1.heap.size w1 w3) := onward hb3 B2.out
  have M3 := Lib.hid hm
  have P3 : Hid (w1.heap.size ≤ b1 ∧ w1.heap.size ≤ b2) := by have := B2.out.size; exact ⟨by omega, by omega⟩
  clear hm hb3 hp hb1 hb2
  go_wp2_with fail
  refine (made_any _ L w3 (HE.out.below B3.out) (HL.out.below B3.out) (fun a ha => (HO.out a ha).below B3.out) H60.out HS.out).mono ?_
  rintro e w4 ⟨q, c1, c2, dw, rfl, hm, -, hb4, hq, hc1, hc2⟩
  have B4 : Hid (Below w1.heap.size w1 w4) := onward hb4 B3.out
  have M4 := Lib.hid (M3.out.below hb4)
  have N4 := Lib.hid hm
  have AP : Hid (b1 ≠ c1 ∧ b2 ≠ c1 ∧ c1 ≠ b1 ∧ c2 ≠ b1 ∧ w1.heap.size ≤ c1) := by
    have := M3.out.lt1; have := M3.out.lt2; have := B3.out.size
    exact ⟨by omega, by omega, by omega, by omega, by omega⟩
  obtain ⟨c', hc', hj⟩ := made_jn L (.map []) 0 jn_empty (by have := H60.out; omega)
  have HJ := Lib.hid hj
  have HC : Hid (c' ≤ 60) := by have := H60.out; show _ ≤ _; omega
  clear hm hb4 hq hc1 hc2 M3 z0 z1 z2 hc' hj
  generalize (madeD (.map []) L).1 = D at *
  obtain ⟨z0, z1, z2⟩ := KX.out w4 B4.out
  obtain ⟨g, o, rfl, -, -⟩ := pt_cells HX.out.1 0 HN.out
  have HT : Int.tmod (wrap64 (by8 : Int)) (ps.length : Int) = ((by8 % ps.length : Nat) : Int) := by
    rw [show wrap64 (by8 : Int) = by8 by have := HB.out; unfold wrap64; omega]
    rfl
  have HK : Hid (by8 % ps.length < ps.length) := Nat.mod_lt _ HN.out
  generalize by8 % ps.length = k at *
  have hcap : ps.length ≤ pc := by
    obtain ⟨_, _, e, h, _⟩ := rows_form HX.out.1
    rw [List.length_map] at e h
    injection e with _ _ e
    omega
  have HCAP := Lib.hid hcap
  have hk1 : (k : Int) ≤ (ps.length : Int) := by have := HK.out; omega
  have hk2 : (k : Int) ≤ (pc : Int) := by have := HK.out; omega
  have hk3 : pc ≠ k := by have := HK.out; omega
  clear hcap
  have H40 : Hid (ps.length ≤ 40) := H2.out.1
  have HR : Hid (∀ W, Below w1.heap.size w1 W → RowsIn W (.slice (some ⟨g, o, none⟩) ps.length pc) 2 (ps.map Pt.cells)) := fun W hb => (HX.out.below hb).1
  have HS2 : Hid (∀ q ∈ ps, q.a.size ≤ 100 ∧ Acct.inInt q.n) := fun q hq => ⟨H2.out.2 q hq, HX.out.2.2.2 q hq⟩
  have HTN : Hid (tn < 4294967296) := by have := HX.out.2.1.2; dsimp only at this; show _ < _; omega
  obtain ⟨i0, hi, hz0, hz1, hz2⟩ := info_parts infoPt
  go_upto_region 8 with fail
  refine wp_region_held_drew (S := (fun W => W.cell? ⟨w.heap.size, 2, none⟩ = some (.slice (some ⟨g, o, none⟩) ps.length pc))) (by kernel_rfl) ?_ (fun hHeld => ?_)
  · (try dsimp only)
    exact z2
  refine Plan.start (plan := [1, 2, 3, 4, 6, 7, 8, 9]) (fuel := 4) (by decide +kernel) (by assumption) ?_
  refine Plan.free (i := 1) (ds := some 65) (v := ?_) rfl rfl rfl ?_ (fun _ _ _ h => h) ?_
  rotate_left
  · (intro w hSw; (try dsimp only at hSw); go_simp; first | done | with_reducible rfl)
  (try simp only [Act.put, List.setIfInBounds_toArray, List.set_cons_zero, List.set_cons_succ])
  refine Plan.free (i := 2) (ds := some 66) (v := ?_) rfl rfl rfl ?_ (fun _ _ _ h => h) ?_
  rotate_left
  · (intro w hSw; (try dsimp only at hSw); go_simp; first | done | with_reducible rfl)
  (try simp only [Act.put, List.setIfInBounds_toArray, List.set_cons_zero, List.set_cons_succ])
  refine Plan.free (i := 3) (ds := some 67) (v := ?_) rfl rfl rfl ?_ (fun _ _ _ h => h) ?_
  rotate_left
  · (intro w hSw; (try dsimp only at hSw); go_simp; first | done | with_reducible rfl)
  (try simp only [Act.put, List.setIfInBounds_toArray, List.set_cons_zero, List.set_cons_succ])
  refine Plan.free (i := 4) (ds := some 68) (v := ?_) rfl rfl rfl ?_ (fun _ _ _ h => h) ?_
  rotate_left
  · (intro w hSw; (try dsimp only at hSw); go_simp; first | done | with_reducible rfl)
  (try simp only [Act.put, List.setIfInBounds_toArray, List.set_cons_zero, List.set_cons_succ])
  refine Plan.free (i := 6) (ds := some 70) (v := ?_) rfl rfl rfl ?_ (fun _ _ _ h => h) ?_
  rotate_left
  · (intro w hSw; (try dsimp only at hSw); go_simp; first | done | with_reducible rfl)
  (try simp only [Act.put, List.setIfInBounds_toArray, List.set_cons_zero, List.set_cons_succ])
  refine Plan.free (i := 7) (ds := some 71) (v := ?_) rfl rfl rfl ?_ (fun _ _ _ h => h) ?_
  rotate_left
  · (intro w hSw; (try dsimp only at hSw); go_simp; first | done | with_reducible rfl)
  (try simp only [Act.put, List.setIfInBounds_toArray, List.set_cons_zero, List.set_cons_succ])
  refine Plan.free (i := 8) (ds := some 72) (v := ?_) rfl rfl rfl ?_ (fun _ _ _ h => h) ?_
  rotate_left
  · (intro w hSw; (try dsimp only at hSw); go_simp; first | done | with_reducible rfl)
  (try simp only [Act.put, List.setIfInBounds_toArray, List.set_cons_zero, List.set_cons_succ])
  refine Plan.free (i := 9) (ds := some 73) (v := ?_) rfl rfl rfl ?_ (fun _ _ _ h => h) ?_
  rotate_left
  · (intro w hSw; (try dsimp only at hSw); go_simp; first | done | with_reducible rfl)
  (try simp only [Act.put, List.setIfInBounds_toArray, List.set_cons_zero, List.set_cons_succ])
  refine Plan.stop (fun hHeld => ?_)
  refine wpAnyH_ready (rs := [0]) (by decide +kernel) (by simp) ?_
  refine AllReadyH.cons (o := _) rfl ?_ AllReadyH.nil
  intro K hK
  rw [if_pos (wanted_none (by rfl))]
  (go_simp; obtain ⟨W1, h1⟩ : ∃ W, W = (w4.alloc (.cells #[] 39)).drew := ⟨_, rfl⟩; rw [← h1]; have BA : Hid (Below w4.heap.size w4 W1) := (by rw [h1]; exact (below_alloc _ _).drew); have O1 : Hid (W1.ownsRow w4.heap.size 39 2 (.slice (some ⟨w4.heap.size, 0, none⟩) 0 0) 0 []) := (by rw [h1]; exact own_emptyP _); clear h1)
  refine hK.out _ _ ?_ (fun hHeld => ?_)
  · (try dsimp only)
    exact (KX.out _ (onward BA.out B4.out)).2.2
  clear hK K
  (try simp only [Act.put, List.setIfInBounds_toArray, List.set_cons_zero, List.set_cons_succ])
  refine wpAnyH_ready (rs := [5]) (by decide +kernel) (by simp) ?_
  refine AllReadyH.cons (o := _) rfl ?_ AllReadyH.nil
  intro K hK
  rw [if_pos (wanted_none (by rfl))]
  (refine wp_appendJ _ _ _ 24 (by rfl) w4.heap.size 39 i0 _ 2 24 Tryd.underlying24 hi hz0 hz1 hz2 rfl (by decide) (.slice (some ⟨w4.heap.size, 0, none⟩) 0 0) 0 [] (by rfl) O1.out ⟨g, o + k * 2, none⟩ (ps.length - k) (pc - k) ((((ps.drop k).take (ps.length - k)).map Pt.cells).flatten) (by rfl) (by rw [pts_len, List.length_take, List.length_drop]; omega) (pts_src (HR.out _ (onward BA.out B4.out)) k (ps.length - k) (by have := HK.out; omega)) (pts_one _) (by unfold maxLen; have := H40.out; omega) (by have := H40.out; omega) BA.out.size ?_; intro v2 W2 hown2 hgrow2; obtain ⟨ga, gc, hv2⟩ := jown_form hown2; subst hv2; have O2 := Lib.hid hown2; have BB : Hid (Below w4.heap.size w4 W2) := BA.out.grown hgrow2 BA.out.size (fun k hk => (O1.out.lt k hk).1); clear hown2 hgrow2)
  refine hK.out _ _ ?_ (fun hHeld => ?_)
  · (try dsimp only)
    exact (KX.out _ (onward BB.out B4.out)).2.2
  clear hK K
  (try simp only [Act.put, List.setIfInBounds_toArray, List.set_cons_zero, List.set_cons_succ])
  refine wpAnyH_ready (rs := [10]) (by decide +kernel) (by simp) ?_
  refine AllReadyH.cons (o := _) rfl ?_ AllReadyH.nil
  intro K hK
  rw [if_pos (wanted_none (by rfl))]
  (refine wp_appendJ _ _ _ 24 (by rfl) w4.heap.size 39 i0 _ 2 24 Tryd.underlying24 hi hz0 hz1 hz2 rfl (by decide) _ _ _ (by rfl) O2.out ⟨g, o, none⟩ k pc ((((ps.drop 0).take k).map Pt.cells).flatten) (by rfl) (by rw [pts_len, List.length_take, List.length_drop]; have := HK.out; omega) (by have h := pts_src (HR.out _ (onward BB.out B4.out)) 0 k (by have := HK.out; omega); rw [Nat.zero_mul, Nat.add_zero] at h; exact h) (pts_one _) (by unfold maxLen; have := H40.out; have := HK.out; omega) (by have := H40.out; have := HK.out; omega) BB.out.size ?_; intro v3 W3 hown3 hgrow3; rw [show 0 + (ps.length - k) + k = ps.length by have := HK.out; omega] at hown3; obtain ⟨ta, tc, hv3⟩ := jown_form hown3; subst hv3; have O3 := Lib.hid hown3; have BC : Hid (Below w4.heap.size w4 W3) := BB.out.grown hgrow3 BB.out.size (fun k hk => (O2.out.lt k hk).1); clear hown3 hgrow3)
  refine hK.out _ _ ?_ (fun hHeld => ?_)
  · (try dsimp only)
    exact (KX.out _ (onward BC.out B4.out)).2.2
  clear hK K
  (try simp only [Act.put, List.setIfInBounds_toArray, List.set_cons_zero, List.set_cons_succ])
  refine Plan.start (plan := [11]) (fuel := 0) (by decide +kernel) (by assumption) ?_
  refine Plan.free (i := 11) (ds := some 12) (v := ?_) rfl rfl rfl ?_ (fun _ _ _ h => h) ?_
  rotate_left
  · (intro w hSw; (try dsimp only at hSw); go_simp; first | done | with_reducible rfl)
  (try simp only [Act.put, List.setIfInBounds_toArray, List.set_cons_zero, List.set_cons_succ])
  refine Plan.stop (fun hHeld => ?_)
  refine wpAnyH_done (by decide +kernel) ?_ _
  have eL : ps.length = (ps.drop k ++ ps.take k).length := by rw [List.length_append, List.length_drop, List.length_take]; have := HK.out; omega
  have hr3 : RowsIn W3 (.slice ta ps.length tc) 2 ((ps.drop k ++ ps.take k).map Pt.cells) := by
    refine jrows_own (base := w4.heap.size) (e := 39) (pt_rows _) ?_
    have h := O3.out
    rw [List.length_map, ← eL, List.map_append, List.flatten_append]
    rw [List.take_of_length_le (by rw [List.length_drop]; omega), List.drop_zero, List.nil_append] at h
    exact h
  have HL2 : Hid ((ps.drop k ++ ps.take k).length ≤ 40) := by rw [← eL]; have := H40.out; have := HK.out; show _ ≤ _; omega
  have HP : Hid (ps.Perm (ps.drop k ++ ps.take k)) := turn_perm ps k
  have HS3 : Hid (∀ q ∈ ps.drop k ++ ps.take k, q.a.size ≤ 100 ∧ Acct.inInt q.n) := fun q hq => HS2.out q (HP.out.mem_iff.2 hq)
  have R3 := Lib.hid hr3
  have BW : Hid (Below w1.heap.size w1 W3) := onward BC.out B4.out
  obtain ⟨q1, q2, q3⟩ := postO_perm HJ.out (by have := HC.out; omega) (t := t) (ten := tn) HP.out
  have JS : Hid (JnlS W3 p b1 b2 3000 D (.map [])) := ⟨M4.out.below BC.out, HJ.out.isM, HJ.out.wf, by rw [HJ.out.last]; have := HC.out; omega⟩
  have N5 := Lib.hid (N4.out.below BC.out)
  have HV := Lib.hid q3
  generalize ps.drop k ++ ps.take k = ps2 at *
  have PX := Lib.hid (jn_post t tn (.slice (some ⟨g, o, none⟩) ps.length pc) ps W3 (HE.out.below BW.out) JS.out (by decide) (HR.out _ BW.out) H40.out HTN.out HS2.out)
  have PY : Hid (∀ W, EnvA W → JnlS W q c1 c2 3000 D (.map []) → RowsIn W (.slice ta ps.length tc) 2 (ps2.map Pt.cells) → Calls Tryd.prog 8 #[memI q, .int .i64 t, .int .u32 tn, .slice ta ps.length tc] W fun e w' => e = .returned (.tuple #[.int .u64 (postO D t tn ps2).1, .int .i64 (postO D t tn ps2).2.1]) ∧ MemS w' q c1 c2 (-1) (3000 + 42) (postO D t tn ps2).2.2 (.map []) ∧ Turned c1 W w') := fun W h1 h2 h3 => jn_post t tn _ ps2 W h1 h2 (by decide) h3 HL2.out HTN.out HS3.out
  generalize postO D t tn ps = r1 at *
  generalize postO D t tn ps2 = r2 at *
  obtain ⟨xa, xe, DS⟩ := r1
  obtain ⟨ya, ye, DT⟩ := r2
  dsimp only at q1 q2 HV PX PY
  subst q1
  subst q2
  obtain ⟨z0, z1, z2⟩ := KX.out W3 BW.out
  clear hr3 q3 hHeld hk1 hk2 hk3 HT hi hz0 hz1 hz2 O1 O2 O3 BA BB BC M4 N4 eL
  go_wp2_with fail
  refine PX.out.mono ?_
  rintro e w5 ⟨rfl, hm, ht⟩
  have B5 : Hid (Below w1.heap.size w1 w5) := BW.out.trans (ht.below BW.out.size P3.out.1)
  have M5 := Lib.hid hm
  have N6 : Hid (JnlS w5 q c1 c2 3000 D (.map [])) := ⟨N5.out.turned ht AP.out.2.2.1 AP.out.2.2.2.1, JS.out.isM, JS.out.wf, JS.out.last⟩
  have R5 := Lib.hid (ht.rows R3.out (pt_rows _))
  clear hm ht z0 z1 z2 JS N5 R3 PX
  obtain ⟨z0, z1, z2⟩ := KX.out w5 B5.out
  have PX := Lib.hid (PY.out w5 (HE.out.below B5.out) N6.out R5.out)
  clear PY
  go_wp2_with fail
  refine PX.out.mono ?_
  rintro e w6 ⟨rfl, hm, ht⟩
  have B6 : Hid (Below w1.heap.size w1 w6) := B5.out.trans (ht.below B5.out.size AP.out.2.2.2.2)
  have N7 := Lib.hid hm
  have M7 := Lib.hid (M5.out.turned ht AP.out.1 AP.out.2.1)
  clear hm ht PX N6 M5 R5 z0 z1 z2
  go_wp2_with fail
  go_loopw [17] (fun iv wr => ∃ j : Nat, j ≤ ps.length ∧ iv = .int .i64 j ∧ Hid (MemS wr p b1 b2 (-1) 3042 DS (.map [])) ∧ Hid (MemS wr q c1 c2 (-1) 3042 DT (.map [])) ∧ Hid (Below w1.heap.size w1 wr)) (fun iv _ => ps.length - (intOf iv).toNat)
  case atStart => exact ⟨0, by omega, rfl, M7.out, N7.out, B6.out⟩
  case round =>
    obtain ⟨j, hj, rfl, MR, NR, BR⟩ := hrel
    obtain ⟨z0, z1, z2⟩ := KX.out wr BR.out
    have ER := Lib.hid (HE.out.below BR.out)
    by_cases hlt : j < ps.length
    · obtain ⟨g', o', e', x0, -⟩ := pt_cells (HR.out _ BR.out) j hlt
      injection e' with e'
      injection e' with e1 e2 _
      subst e1
      subst e2
      have hz : (j : Int) < (ps.length : Int) := by omega
      have hs := (HS2.out ps[j] (List.getElem_mem hlt)).1
      generalize ps[j] = pj at *
      obtain ⟨s, sn⟩ := pj
      dsimp only at x0 hs
      have BX := Lib.hid (bal_any s wr ER.out MR.out (by omega))
      have BY : Hid (∀ W, Below wr.heap.size wr W → Calls Tryd.prog 9 #[memI q, .string s] W fun e w' => e = .returned (.tuple #[.int .i64 (balV DT s).1, .int .i64 (balV DT s).2]) ∧ Below W.heap.size W w') := fun W hb => bal_any s W (ER.out.below hb) (NR.out.below hb) (by omega)
      rw [HV.out] at BY
      generalize balV DS s = bv at *
      obtain ⟨x, y⟩ := bv
      clear hs
      go_wp2_with fail
      refine BX.out.mono ?_
      rintro e w7 ⟨rfl, hb⟩
      have B7 := Lib.hid hb
      have x7 := stays hb x0
      obtain ⟨z0, z1, z2⟩ := KX.out w7 (onward hb BR.out)
      clear hb BX x0
      go_wp2_with fail
      refine (BY.out w7 B7.out).mono ?_
      rintro e w8 ⟨rfl, hb⟩
      have B8 := Lib.hid (onward hb B7.out)
      have h40 := H40.out
      clear hb BY x7 z0 z1 z2
      go_wp2_with fail
      go_roundw
      case rel => exact ⟨j + 1, by omega, by go_num, MR.out.below B8.out, NR.out.below B8.out, onward B8.out BR.out⟩
      case measure => simp [intOf]; omega
    · have hje : j = ps.length := by omega
      have dk : decide ((j : Int) < ((ps.length : Nat) : Int)) = false := decide_eq_false (by omega)
      clear hje
      go_wp2_with fail
      refine (posts17_any wr ER.out).mono ?_
      rintro e w7 ⟨rfl, hb⟩
      have B7 := Lib.hid (onward (onward hb BR.out) B1.out)
      clear hb
      go_wp2_with fail
      go_ret
      exact ⟨rfl, B7.out⟩
end Go.Proofs.YtecbnhmnhcpcmaaDoor
