/- The reference's Act: a letter is moved. (Printed by gen_nev.py.) -/
import Derived.Test.YtgkefciojoffgaaNeU
namespace Go.Proofs.Ytgkefciojoffgaa
open Go.RowKit
set_option linter.unusedVariables false
set_option linter.unusedSimpArgs false
attribute [local go_sem ↓] Go.wp_at_zero Go.wp_at_succ
theorem two_blocks (w : World) (C D : Array Value) (T U : Nat) : Below w.heap.size w ((w.alloc (.cells C T)).alloc (.cells D U)) ∧ ((w.alloc (.cells C T)).alloc (.cells D U)).heap[w.heap.size]? = some (.cells C T (0, 0)) ∧ ((w.alloc (.cells C T)).alloc (.cells D U)).heap[w.heap.size + 1]? = some (.cells D U (0, 0)) ∧ ((w.alloc (.cells C T)).alloc (.cells D U)).heap.size = w.heap.size + 2 := by
  have b1 := below_alloc w (.cells C T)
  have b2 := below_alloc (w.alloc (.cells C T)) (.cells D U)
  refine ⟨onward b2 b1, stays_block b2 (heap_alloc_new w _), ?_, by simp⟩
  have := heap_alloc_new (w.alloc (.cells C T)) (.cells D U)
  have e : (w.alloc (.cells C T)).heap.size = w.heap.size + 1 := by simp
  rw [e] at this
  exact this
theorem moved_cells {L : List Lt} {k : Nat} (hk : k < L.length) : ((L.flatMap Lt.cells).take (k * 3)) ++ (((L.flatMap Lt.cells).drop ((k + 1) * 3)).take ((L.length - (k + 1)) * 3)) = (L.eraseIdx k).flatMap Lt.cells := by
  rw [ List.take_of_length_le (l := (L.flatMap Lt.cells).drop ((k + 1) * 3)) (by rw [List.length_drop, cells_len]; omega)]
  exact erase_cells L k hk
theorem moved_cells' {L : List Lt} {k : Nat} (hk : k < L.length) (h : L.length = k + 1) : (L.flatMap Lt.cells).take (k * 3) = (L.eraseIdx k).flatMap Lt.cells := by
  rw [← moved_cells hk, h]
  simp
theorem owned_below' {w W W' : World} {base : Nat} {e : TypeId} {size : Nat} {v : Value} {n : Nat} {xs : List Value} (hB : w.heap.size ≤ base) (h : W.ownsRow base e size v n xs) (hb : Below w.heap.size w W) (hg : W.grownBy W' v.ownBlock) : Below w.heap.size w W' :=
  hb.grown hg hb.size (fun k hk => Nat.le_trans hB (h.lt k hk).1)
theorem ownsRow_base {w : World} {base base' size n : Nat} {e : TypeId} {v : Value} {xs : List Value} (hb : base' ≤ base) (h : w.ownsRow base e size v n xs) : w.ownsRow base' e size v n xs :=
  ⟨h.1, h.2.elim Or.inl (fun ⟨g, cap, cur, hv, hg, r⟩ => Or.inr ⟨g, cap, cur, hv, Nat.le_trans hb hg, r⟩)⟩
theorem own_keeps {W W3 : World} {base o : Nat} {e : TypeId} {size : Nat} {v : Value} {n : Nat} {xs : List Value} {ob : Obj} (hown : W.ownsRow base e size v n xs) (hg : W.grownBy W3 v.ownBlock) (ho : o < base) (h : W.heap[o]? = some ob) : W3.heap[o]? = some ob := by
  rw [hg.block o (lt_of_block h) (fun e => by have := (hown.lt o e.symm).1; omega)]; exact h
set_option maxHeartbeats 1000000 in
set_option maxRecDepth 10000000 in
theorem ract_drop (B rp gb : Nat) (G : Int) (v : Value) (L : List Lt) (c1 c2 c3 : Bool) (k : Nat) (w : World) (hBp : B ≤ rp) (hBg : B ≤ gb) (hN : RefV w rp gb G v L c1 c2 c3) (hL : LtsAt B w L) (hk : k < L.length) (hll : L.length ≤ 4096) :
    Calls Try.prog 21 #[.pointer (some ⟨rp, 0, none⟩), .int .u8 2, .int .i64 k] w fun e w' => e = .returned (.tuple #[letter0, .int .i64 0]) ∧ RefEnd B rp gb G v (L.eraseIdx k) c1 c2 c3 w w' := by
  obtain ⟨g, cap, cur, rfl, hg, h3, h4, h5, h6, h7⟩ := own_open hN.2.2 (by omega)
  have hb0 := below_alloc w (.cells #[.int .i64 0, .int .i64 0, .slice none 0 0] 30)
  obtain ⟨z0, n0, n1, n2⟩ := three_cells (stays_block hb0 hN.1)
  obtain ⟨ab, cb, hform⟩ := (hL L[k] (List.getElem_mem hk)).form
  obtain ⟨r0, r1, r2⟩ := row_letter (n := 0) (cap := 0) (stays_block hb0 h3) h7 k hk
  rw [hform] at r2
  have hone := lts_one hL
  obtain ⟨HB2, HP2, HQ2, hsz2⟩ := two_blocks w #[.int .i64 0, .int .i64 0, .slice none 0 0] #[.int .i64 L[k].f, .int .i64 L[k].t, .slice ab L[k].bs.length cb] 30 30
  have HN := Lib.hid hN
  have HL := Lib.hid hL
  have HF := Lib.hid hform
  have H3 := Lib.hid h3
  have H6 := Lib.hid h6
  have H7 := Lib.hid h7
  have HO := Lib.hid hone
  have HV := Lib.hid (show ∀ n : Nat, Below w.heap.size w (World.drewN ((w.alloc (.cells #[.int .i64 0, .int .i64 0, .slice none 0 0] 30)).alloc (.cells #[.int .i64 L[k].f, .int .i64 L[k].t, .slice ab L[k].bs.length cb] 30)) n) ∧ (World.drewN ((w.alloc (.cells #[.int .i64 0, .int .i64 0, .slice none 0 0] 30)).alloc (.cells #[.int .i64 L[k].f, .int .i64 L[k].t, .slice ab L[k].bs.length cb] 30)) n).heap[w.heap.size]? = _ ∧ (World.drewN ((w.alloc (.cells #[.int .i64 0, .int .i64 0, .slice none 0 0] 30)).alloc (.cells #[.int .i64 L[k].f, .int .i64 L[k].t, .slice ab L[k].bs.length cb] 30)) n).heap[w.heap.size + 1]? = _ ∧ w.heap.size + 2 ≤ (World.drewN ((w.alloc (.cells #[.int .i64 0, .int .i64 0, .slice none 0 0] 30)).alloc (.cells #[.int .i64 L[k].f, .int .i64 L[k].t, .slice ab L[k].bs.length cb] 30)) n).heap.size from fun n => ⟨World.below_drewN HB2 n, HP2, HQ2, Nat.le_of_eq hsz2.symm⟩)
  unfold maxLen at h5
  have hk0 : ¬ ((L.length : Int) ≤ k) := by omega
  have hk1 : (k : Int) < L.length := by omega
  have hgw := lt_of_block h3
  have hrw := lt_of_block hN.1
  have hw1 : IntKind.i64.wrap ((k : Int) + 1) = (k : Int) + 1 := IntWalk.i64_in _ (by omega)
  obtain ⟨i0, hi, hz0, hz1, hz2⟩ := info_parts infoL
  clear hN hL h3 h6 h7 hb0 hform hone HB2 HP2 HQ2 hsz2
  go_enter Try.func21, Try.ntmps21
  go_wp2_with fail
  go_quiet (fail)
  obtain ⟨hBV, hPV, hQV, hZV⟩ := HV.out nq
  generalize World.drewN ((w.alloc (.cells #[.int .i64 0, .int .i64 0, .slice none 0 0] 30)).alloc (.cells #[.int .i64 L[k].f, .int .i64 L[k].t, .slice ab L[k].bs.length cb] 30)) nq = V at *
  have BV := Lib.hid hBV
  have PV := Lib.hid hPV
  have QV := Lib.hid hQV
  have ZV := Lib.hid hZV
  clear hBV hPV hQV hZV HV
  obtain ⟨hx0, hx1, hx2, hx3⟩ : V.heap[rp]? = _ ∧ V.heap[g]? = _ ∧ V.heap[gb]? = _ ∧ w.heap.size + 2 ≤ V.heap.size := ⟨stays_block BV.out HN.out.1, stays_block BV.out H3.out, stays_block BV.out HN.out.2.1, ZV.out⟩
  obtain ⟨-, m0, m1, m2⟩ := three_cells hx0
  have X0 := Lib.hid hx0
  have X1 := Lib.hid hx1
  have X2 := Lib.hid hx2
  clear hx0 hx1 hx2 n0 n1 n2 r0 r1 r2
  by_cases hc : cap = k + 1
  · subst hc
    go_wp2_with (at_builtin; refine wpList_append_own _ rfl (.tmp 49) (.tmp 55) 34 rfl (w.heap.size + 2) 30 i0 _ 3 40 Try.underlying34 hi hz0 hz1 hz2 rfl (by decide) (.slice none 0 0) 0 [] rfl (World.ownsRow_nil _ _ _ _) ⟨g, 0, none⟩ k (k + 1) (((L.flatMap Lt.cells).drop 0).take (k * 3)) rfl (part_len _ _ _ (by rw [cells_len]; omega)) (row_src X1.out H7.out 0 (k * 3) (by omega)) (part_one HO.out _ _) (by unfold maxLen; omega) (by omega) (by omega) ?_)
    intro v1 V1 hown1 hgrow1 _
    have O1 := Lib.hid hown1
    have hb1 : Below V.heap.size V V1 := ⟨hgrow1.os, hgrow1.tape, hgrow1.output, hgrow1.size, fun k hk => hgrow1.block k hk (fun e => by cases e)⟩
    have B1 := Lib.hid (BV.out.trans (hb1.mono (by omega)))
    have Y0 := Lib.hid (stays_block hb1 X0.out)
    have Y1 := Lib.hid (stays_block hb1 X1.out)
    have YP := Lib.hid (stays_block hb1 PV.out)
    have YQ := Lib.hid (stays_block hb1 QV.out)
    obtain ⟨-, m0, m1, m2⟩ := three_cells Y0.out
    have hz1' := hb1.size
    clear hown1 hgrow1 hb1
    obtain ⟨a1, cc1, hv1⟩ := net_form O1.out
    subst hv1
    go_wp2_with (at_builtin; refine wpList_append_own _ rfl (.tmp 57) (.tmp 64) 34 rfl (w.heap.size + 2) 30 i0 _ 3 40 Try.underlying34 hi hz0 hz1 hz2 rfl (by decide) _ _ _ rfl O1.out ⟨g, 0, none⟩ 0 0 [] rfl rfl (fun j u hj => by simp at hj) (fun u hu => by cases hu) (by unfold maxLen; omega) (by omega) (by omega) ?_)
    intro v2 V2 hown2 hgrow2 _
    have hl2 : (L.eraseIdx k).length = L.length - 1 := List.length_eraseIdx_of_lt hk
    have O2 : Hid (V2.ownsRow (w.heap.size + 2) 30 3 v2 (L.eraseIdx k).length ((L.eraseIdx k).flatMap Lt.cells)) := by
      have h := hown2
      rw [moved_cells' hk (by omega)] at h
      unfold Hid
      rw [hl2]
      have e : L.length - 1 = k := by omega
      rw [e]
      exact h
    have B2 := Lib.hid (owned_below' (by omega) O1.out B1.out hgrow2)
    have W0 := Lib.hid (own_keeps O1.out hgrow2 (by omega) Y0.out)
    have WP := Lib.hid (own_keeps O1.out hgrow2 (by omega) YP.out)
    have WQ := Lib.hid (own_keeps O1.out hgrow2 (by omega) YQ.out)
    have hz2' := hgrow2.size
    obtain ⟨a2, cc2, hv2⟩ := net_form O2.out
    subst hv2
    rw [hl2] at O2 ⊢
    have O2L : Hid (V2.ownsRow (w.heap.size + 2) 30 3 (.slice a2 (L.length - 1) cc2) (L.eraseIdx k).length ((L.eraseIdx k).flatMap Lt.cells)) := by
      unfold Hid
      rw [hl2]
      exact O2.out
    clear hown2 hgrow2 O1 m0 m1 m2
    obtain ⟨-, m0, m1, m2⟩ := three_cells W0.out
    obtain ⟨-, p0, p1, p2⟩ := three_cells WP.out
    obtain ⟨-, q0, q1, q2⟩ := three_cells WQ.out
    have fr1 : V2.frozen? ⟨rp, 1, none⟩ = false := free_of_row W0.out
    have fp0 : V2.frozen? ⟨w.heap.size, 0, none⟩ = false := free_of_row WP.out
    have fp1 : V2.frozen? ⟨w.heap.size, 1, none⟩ = false := free_of_row WP.out
    have fp2 : V2.frozen? ⟨w.heap.size, 2, none⟩ = false := free_of_row WP.out
    have hnr : rp ≠ w.heap.size := by omega
    have hnr' : w.heap.size ≠ rp := by omega
    have hpl := lt_of_block WP.out
    have HC := Lib.hid (fun y0 y1 y2 => ract_close (po := w.heap.size) hBp hBg HN.out HL.out B2.out rfl hpl WP.out (L' := L.eraseIdx k) (ownsRow_base (by omega) O2L.out) (fun l hl => List.mem_of_mem_eraseIdx hl) y0 y1 y2)
    clear hpl
    go_wp2_with fail
    refine bodyPost_ret (v := .tuple #[letter0, .int .i64 0]) ?_ rfl ⟨rfl, HC.out _ _ _⟩
    simp [results, letter0, Try.results21, go_sem, p0, p1, p2, hnr, hnr']
  · go_wp2_with (at_builtin; refine wpList_append_own _ rfl (.tmp 49) (.tmp 55) 34 rfl (w.heap.size + 2) 30 i0 _ 3 40 Try.underlying34 hi hz0 hz1 hz2 rfl (by decide) (.slice none 0 0) 0 [] rfl (World.ownsRow_nil _ _ _ _) ⟨g, 0, none⟩ k cap (((L.flatMap Lt.cells).drop 0).take (k * 3)) rfl (part_len _ _ _ (by rw [cells_len]; omega)) (row_src X1.out H7.out 0 (k * 3) (by omega)) (part_one HO.out _ _) (by unfold maxLen; omega) (by omega) (by omega) ?_)
    intro v1 V1 hown1 hgrow1 _
    have O1 := Lib.hid hown1
    have hb1 : Below V.heap.size V V1 := ⟨hgrow1.os, hgrow1.tape, hgrow1.output, hgrow1.size, fun k hk => hgrow1.block k hk (fun e => by cases e)⟩
    have B1 := Lib.hid (BV.out.trans (hb1.mono (by omega)))
    have Y0 := Lib.hid (stays_block hb1 X0.out)
    have Y1 := Lib.hid (stays_block hb1 X1.out)
    have YP := Lib.hid (stays_block hb1 PV.out)
    have YQ := Lib.hid (stays_block hb1 QV.out)
    obtain ⟨-, m0, m1, m2⟩ := three_cells Y0.out
    have hz1' := hb1.size
    clear hown1 hgrow1 hb1
    obtain ⟨a1, cc1, hv1⟩ := net_form O1.out
    subst hv1
    go_wp2_with (at_builtin; refine wpList_append_own _ rfl (.tmp 57) (.tmp 64) 34 rfl (w.heap.size + 2) 30 i0 _ 3 40 Try.underlying34 hi hz0 hz1 hz2 rfl (by decide) _ _ _ rfl O1.out ⟨g, (k + 1) * 3, none⟩ (L.length - (k + 1)) (cap - (k + 1)) (((L.flatMap Lt.cells).drop ((k + 1) * 3)).take ((L.length - (k + 1)) * 3)) rfl (part_len _ _ _ (by rw [cells_len]; omega)) (row_src Y1.out H7.out _ _ (by omega)) (part_one HO.out _ _) (by unfold maxLen; omega) (by omega) (by omega) ?_)
    intro v2 V2 hown2 hgrow2 _
    have hl2 : (L.eraseIdx k).length = L.length - 1 := List.length_eraseIdx_of_lt hk
    have O2 : Hid (V2.ownsRow (w.heap.size + 2) 30 3 v2 (L.eraseIdx k).length ((L.eraseIdx k).flatMap Lt.cells)) := by
      have h := hown2
      rw [moved_cells hk] at h
      unfold Hid
      rw [hl2]
      have e : L.length - 1 = k + (L.length - (k + 1)) := by omega
      rw [e]
      exact h
    have B2 := Lib.hid (owned_below' (by omega) O1.out B1.out hgrow2)
    have W0 := Lib.hid (own_keeps O1.out hgrow2 (by omega) Y0.out)
    have WP := Lib.hid (own_keeps O1.out hgrow2 (by omega) YP.out)
    have WQ := Lib.hid (own_keeps O1.out hgrow2 (by omega) YQ.out)
    have hz2' := hgrow2.size
    obtain ⟨a2, cc2, hv2⟩ := net_form O2.out
    subst hv2
    rw [hl2] at O2 ⊢
    have O2L : Hid (V2.ownsRow (w.heap.size + 2) 30 3 (.slice a2 (L.length - 1) cc2) (L.eraseIdx k).length ((L.eraseIdx k).flatMap Lt.cells)) := by
      unfold Hid
      rw [hl2]
      exact O2.out
    clear hown2 hgrow2 O1 m0 m1 m2
    obtain ⟨-, m0, m1, m2⟩ := three_cells W0.out
    obtain ⟨-, p0, p1, p2⟩ := three_cells WP.out
    obtain ⟨-, q0, q1, q2⟩ := three_cells WQ.out
    have fr1 : V2.frozen? ⟨rp, 1, none⟩ = false := free_of_row W0.out
    have fp0 : V2.frozen? ⟨w.heap.size, 0, none⟩ = false := free_of_row WP.out
    have fp1 : V2.frozen? ⟨w.heap.size, 1, none⟩ = false := free_of_row WP.out
    have fp2 : V2.frozen? ⟨w.heap.size, 2, none⟩ = false := free_of_row WP.out
    have hnr : rp ≠ w.heap.size := by omega
    have hnr' : w.heap.size ≠ rp := by omega
    have hpl := lt_of_block WP.out
    have HC := Lib.hid (fun y0 y1 y2 => ract_close (po := w.heap.size) hBp hBg HN.out HL.out B2.out rfl hpl WP.out (L' := L.eraseIdx k) (ownsRow_base (by omega) O2L.out) (fun l hl => List.mem_of_mem_eraseIdx hl) y0 y1 y2)
    clear hpl
    go_wp2_with fail
    refine bodyPost_ret (v := .tuple #[letter0, .int .i64 0]) ?_ rfl ⟨rfl, HC.out _ _ _⟩
    simp [results, letter0, Try.results21, go_sem, p0, p1, p2, hnr, hnr']
set_option maxHeartbeats 1000000 in
set_option maxRecDepth 10000000 in
theorem ract_hold (B rp gb : Nat) (G : Int) (v : Value) (L : List Lt) (c1 c2 c3 : Bool) (k : Nat) (w : World) (hBp : B ≤ rp) (hBg : B ≤ gb) (hN : RefV w rp gb G v L c1 c2 c3) (hL : LtsAt B w L) (hk : k < L.length) (hll : L.length ≤ 4096) :
    Calls Try.prog 21 #[.pointer (some ⟨rp, 0, none⟩), .int .u8 4, .int .i64 k] w fun e w' => e = .returned (.tuple #[letter0, .int .i64 0]) ∧ RefEnd B rp gb G v (L.eraseIdx k ++ [L[k]]) c1 c2 c3 w w' := by
  obtain ⟨g, cap, cur, rfl, hg, h3, h4, h5, h6, h7⟩ := own_open hN.2.2 (by omega)
  have hb0 := below_alloc w (.cells #[.int .i64 0, .int .i64 0, .slice none 0 0] 30)
  obtain ⟨z0, n0, n1, n2⟩ := three_cells (stays_block hb0 hN.1)
  obtain ⟨ab, cb, hform⟩ := (hL L[k] (List.getElem_mem hk)).form
  obtain ⟨r0, r1, r2⟩ := row_letter (n := 0) (cap := 0) (stays_block hb0 h3) h7 k hk
  rw [hform] at r2
  have hone := lts_one hL
  obtain ⟨HB2, HP2, HQ2, hsz2⟩ := two_blocks w #[.int .i64 0, .int .i64 0, .slice none 0 0] #[.int .i64 L[k].f, .int .i64 L[k].t, .slice ab L[k].bs.length cb] 30 30
  have HN := Lib.hid hN
  have HL := Lib.hid hL
  have HF := Lib.hid hform
  have H3 := Lib.hid h3
  have H6 := Lib.hid h6
  have H7 := Lib.hid h7
  have HO := Lib.hid hone
  have HV := Lib.hid (show ∀ n : Nat, Below w.heap.size w (World.drewN ((w.alloc (.cells #[.int .i64 0, .int .i64 0, .slice none 0 0] 30)).alloc (.cells #[.int .i64 L[k].f, .int .i64 L[k].t, .slice ab L[k].bs.length cb] 30)) n) ∧ (World.drewN ((w.alloc (.cells #[.int .i64 0, .int .i64 0, .slice none 0 0] 30)).alloc (.cells #[.int .i64 L[k].f, .int .i64 L[k].t, .slice ab L[k].bs.length cb] 30)) n).heap[w.heap.size]? = _ ∧ (World.drewN ((w.alloc (.cells #[.int .i64 0, .int .i64 0, .slice none 0 0] 30)).alloc (.cells #[.int .i64 L[k].f, .int .i64 L[k].t, .slice ab L[k].bs.length cb] 30)) n).heap[w.heap.size + 1]? = _ ∧ w.heap.size + 2 ≤ (World.drewN ((w.alloc (.cells #[.int .i64 0, .int .i64 0, .slice none 0 0] 30)).alloc (.cells #[.int .i64 L[k].f, .int .i64 L[k].t, .slice ab L[k].bs.length cb] 30)) n).heap.size from fun n => ⟨World.below_drewN HB2 n, HP2, HQ2, Nat.le_of_eq hsz2.symm⟩)
  unfold maxLen at h5
  have hk0 : ¬ ((L.length : Int) ≤ k) := by omega
  have hk1 : (k : Int) < L.length := by omega
  have hgw := lt_of_block h3
  have hrw := lt_of_block hN.1
  have hw1 : IntKind.i64.wrap ((k : Int) + 1) = (k : Int) + 1 := IntWalk.i64_in _ (by omega)
  obtain ⟨i0, hi, hz0, hz1, hz2⟩ := info_parts infoL
  clear hN hL h3 h6 h7 hb0 hform hone HB2 HP2 HQ2 hsz2
  go_enter Try.func21, Try.ntmps21
  go_wp2_with fail
  go_quiet (fail)
  obtain ⟨hBV, hPV, hQV, hZV⟩ := HV.out nq
  generalize World.drewN ((w.alloc (.cells #[.int .i64 0, .int .i64 0, .slice none 0 0] 30)).alloc (.cells #[.int .i64 L[k].f, .int .i64 L[k].t, .slice ab L[k].bs.length cb] 30)) nq = V at *
  have BV := Lib.hid hBV
  have PV := Lib.hid hPV
  have QV := Lib.hid hQV
  have ZV := Lib.hid hZV
  clear hBV hPV hQV hZV HV
  obtain ⟨hx0, hx1, hx2, hx3⟩ : V.heap[rp]? = _ ∧ V.heap[g]? = _ ∧ V.heap[gb]? = _ ∧ w.heap.size + 2 ≤ V.heap.size := ⟨stays_block BV.out HN.out.1, stays_block BV.out H3.out, stays_block BV.out HN.out.2.1, ZV.out⟩
  obtain ⟨-, m0, m1, m2⟩ := three_cells hx0
  have X0 := Lib.hid hx0
  have X1 := Lib.hid hx1
  have X2 := Lib.hid hx2
  clear hx0 hx1 hx2 n0 n1 n2 r0 r1 r2
  by_cases hc : cap = k + 1
  · subst hc
    go_wp2_with (at_builtin; refine wpList_append_own _ rfl (.tmp 49) (.tmp 55) 34 rfl (w.heap.size + 2) 30 i0 _ 3 40 Try.underlying34 hi hz0 hz1 hz2 rfl (by decide) (.slice none 0 0) 0 [] rfl (World.ownsRow_nil _ _ _ _) ⟨g, 0, none⟩ k (k + 1) (((L.flatMap Lt.cells).drop 0).take (k * 3)) rfl (part_len _ _ _ (by rw [cells_len]; omega)) (row_src X1.out H7.out 0 (k * 3) (by omega)) (part_one HO.out _ _) (by unfold maxLen; omega) (by omega) (by omega) ?_)
    intro v1 V1 hown1 hgrow1 _
    have O1 := Lib.hid hown1
    have hb1 : Below V.heap.size V V1 := ⟨hgrow1.os, hgrow1.tape, hgrow1.output, hgrow1.size, fun k hk => hgrow1.block k hk (fun e => by cases e)⟩
    have B1 := Lib.hid (BV.out.trans (hb1.mono (by omega)))
    have Y0 := Lib.hid (stays_block hb1 X0.out)
    have Y1 := Lib.hid (stays_block hb1 X1.out)
    have YP := Lib.hid (stays_block hb1 PV.out)
    have YQ := Lib.hid (stays_block hb1 QV.out)
    obtain ⟨-, m0, m1, m2⟩ := three_cells Y0.out
    have hz1' := hb1.size
    clear hown1 hgrow1 hb1
    obtain ⟨a1, cc1, hv1⟩ := net_form O1.out
    subst hv1
    go_wp2_with (at_builtin; refine wpList_append_own _ rfl (.tmp 57) (.tmp 64) 34 rfl (w.heap.size + 2) 30 i0 _ 3 40 Try.underlying34 hi hz0 hz1 hz2 rfl (by decide) _ _ _ rfl O1.out ⟨g, 0, none⟩ 0 0 [] rfl rfl (fun j u hj => by simp at hj) (fun u hu => by cases hu) (by unfold maxLen; omega) (by omega) (by omega) ?_)
    intro v2 V2 hown2 hgrow2 _
    have hl2 : (L.eraseIdx k).length = L.length - 1 := List.length_eraseIdx_of_lt hk
    have O2 : Hid (V2.ownsRow (w.heap.size + 2) 30 3 v2 (L.eraseIdx k).length ((L.eraseIdx k).flatMap Lt.cells)) := by
      have h := hown2
      rw [moved_cells' hk (by omega)] at h
      unfold Hid
      rw [hl2]
      have e : L.length - 1 = k := by omega
      rw [e]
      exact h
    have B2 := Lib.hid (owned_below' (by omega) O1.out B1.out hgrow2)
    have W0 := Lib.hid (own_keeps O1.out hgrow2 (by omega) Y0.out)
    have WP := Lib.hid (own_keeps O1.out hgrow2 (by omega) YP.out)
    have WQ := Lib.hid (own_keeps O1.out hgrow2 (by omega) YQ.out)
    have hz2' := hgrow2.size
    obtain ⟨a2, cc2, hv2⟩ := net_form O2.out
    subst hv2
    rw [hl2] at O2 ⊢
    have O2L : Hid (V2.ownsRow (w.heap.size + 2) 30 3 (.slice a2 (L.length - 1) cc2) (L.eraseIdx k).length ((L.eraseIdx k).flatMap Lt.cells)) := by
      unfold Hid
      rw [hl2]
      exact O2.out
    clear hown2 hgrow2 O1 m0 m1 m2
    obtain ⟨-, q0, q1, q2⟩ := three_cells WQ.out
    have hz3 : w.heap.size + 2 ≤ V2.heap.size := by omega
    go_wp2_with (at_builtin; refine wpList_append_own _ rfl (.tmp 68) (.tmp 70) 34 rfl (w.heap.size + 2) 30 i0 _ 3 40 Try.underlying34 hi hz0 hz1 hz2 rfl (by decide) _ _ _ rfl (O2.out.alloc _) ⟨V2.heap.size, 0, none⟩ 1 1 [.int .i64 L[k].f, .int .i64 L[k].t, .slice ab L[k].bs.length cb] rfl rfl (new_cells _ _ _) (one_lt _ _ _ _ _) (by unfold maxLen; omega) (by omega) (by simp; omega) ?_)
    intro v3 V3 hown3 hgrow3 _
    have hl3 : (L.eraseIdx k ++ [L[k]]).length = L.length - 1 + 1 := by rw [List.length_append, hl2]; rfl
    have O3L : Hid (V3.ownsRow (w.heap.size + 2) 30 3 v3 (L.eraseIdx k ++ [L[k]]).length ((L.eraseIdx k ++ [L[k]]).flatMap Lt.cells)) := by
      unfold Hid
      rw [hl3, List.flatMap_append]
      have e : [L[k]].flatMap Lt.cells = [.int .i64 L[k].f, .int .i64 L[k].t, .slice ab L[k].bs.length cb] := by
        show [_, _, L[k].bv] = _
        rw [HF.out]
      rw [e]
      exact hown3
    have ba := below_alloc V2 (.cells #[.int .i64 L[k].f, .int .i64 L[k].t, .slice ab L[k].bs.length cb] 30)
    have B3 := Lib.hid (owned_below' (by omega) (O2.out.alloc (.cells #[.int .i64 L[k].f, .int .i64 L[k].t, .slice ab L[k].bs.length cb] 30)) (B2.out.trans (ba.mono (by omega))) hgrow3)
    have X30 := Lib.hid (own_keeps (O2.out.alloc (.cells #[.int .i64 L[k].f, .int .i64 L[k].t, .slice ab L[k].bs.length cb] 30)) hgrow3 (by omega) (stays_block ba W0.out))
    have X3P := Lib.hid (own_keeps (O2.out.alloc (.cells #[.int .i64 L[k].f, .int .i64 L[k].t, .slice ab L[k].bs.length cb] 30)) hgrow3 (by omega) (stays_block ba WP.out))
    have X3Q := Lib.hid (own_keeps (O2.out.alloc (.cells #[.int .i64 L[k].f, .int .i64 L[k].t, .slice ab L[k].bs.length cb] 30)) hgrow3 (by omega) (stays_block ba WQ.out))
    obtain ⟨a3, cc3, hv3⟩ := net_form O3L.out
    subst hv3
    rw [hl3] at O3L ⊢
    have O3M : Hid (V3.ownsRow (w.heap.size + 2) 30 3 (.slice a3 (L.length - 1 + 1) cc3) (L.eraseIdx k ++ [L[k]]).length ((L.eraseIdx k ++ [L[k]]).flatMap Lt.cells)) := by
      unfold Hid
      rw [hl3]
      exact O3L.out
    have O3L := O3M
    clear hown3 hgrow3 ba q0 q1 q2
    obtain ⟨-, m0, m1, m2⟩ := three_cells X30.out
    obtain ⟨-, p0, p1, p2⟩ := three_cells X3P.out
    obtain ⟨-, q0, q1, q2⟩ := three_cells X3Q.out
    have fr1 : V3.frozen? ⟨rp, 1, none⟩ = false := free_of_row X30.out
    have fp0 : V3.frozen? ⟨w.heap.size, 0, none⟩ = false := free_of_row X3P.out
    have fp1 : V3.frozen? ⟨w.heap.size, 1, none⟩ = false := free_of_row X3P.out
    have fp2 : V3.frozen? ⟨w.heap.size, 2, none⟩ = false := free_of_row X3P.out
    have hnr : rp ≠ w.heap.size := by omega
    have hnr' : w.heap.size ≠ rp := by omega
    have hpl := lt_of_block X3P.out
    have HC := Lib.hid (fun y0 y1 y2 => ract_close (po := w.heap.size) hBp hBg HN.out HL.out B3.out rfl hpl X3P.out (L' := L.eraseIdx k ++ [L[k]]) (ownsRow_base (by omega) O3L.out) (fun l hl => by rcases List.mem_append.1 hl with h | h; exact List.mem_of_mem_eraseIdx h; simp at h; subst h; exact List.getElem_mem _) y0 y1 y2)
    clear hpl
    go_wp2_with fail
    refine bodyPost_ret (v := .tuple #[letter0, .int .i64 0]) ?_ rfl ⟨rfl, HC.out _ _ _⟩
    simp [results, letter0, Try.results21, go_sem, p0, p1, p2, hnr, hnr']
  · go_wp2_with (at_builtin; refine wpList_append_own _ rfl (.tmp 49) (.tmp 55) 34 rfl (w.heap.size + 2) 30 i0 _ 3 40 Try.underlying34 hi hz0 hz1 hz2 rfl (by decide) (.slice none 0 0) 0 [] rfl (World.ownsRow_nil _ _ _ _) ⟨g, 0, none⟩ k cap (((L.flatMap Lt.cells).drop 0).take (k * 3)) rfl (part_len _ _ _ (by rw [cells_len]; omega)) (row_src X1.out H7.out 0 (k * 3) (by omega)) (part_one HO.out _ _) (by unfold maxLen; omega) (by omega) (by omega) ?_)
    intro v1 V1 hown1 hgrow1 _
    have O1 := Lib.hid hown1
    have hb1 : Below V.heap.size V V1 := ⟨hgrow1.os, hgrow1.tape, hgrow1.output, hgrow1.size, fun k hk => hgrow1.block k hk (fun e => by cases e)⟩
    have B1 := Lib.hid (BV.out.trans (hb1.mono (by omega)))
    have Y0 := Lib.hid (stays_block hb1 X0.out)
    have Y1 := Lib.hid (stays_block hb1 X1.out)
    have YP := Lib.hid (stays_block hb1 PV.out)
    have YQ := Lib.hid (stays_block hb1 QV.out)
    obtain ⟨-, m0, m1, m2⟩ := three_cells Y0.out
    have hz1' := hb1.size
    clear hown1 hgrow1 hb1
    obtain ⟨a1, cc1, hv1⟩ := net_form O1.out
    subst hv1
    go_wp2_with (at_builtin; refine wpList_append_own _ rfl (.tmp 57) (.tmp 64) 34 rfl (w.heap.size + 2) 30 i0 _ 3 40 Try.underlying34 hi hz0 hz1 hz2 rfl (by decide) _ _ _ rfl O1.out ⟨g, (k + 1) * 3, none⟩ (L.length - (k + 1)) (cap - (k + 1)) (((L.flatMap Lt.cells).drop ((k + 1) * 3)).take ((L.length - (k + 1)) * 3)) rfl (part_len _ _ _ (by rw [cells_len]; omega)) (row_src Y1.out H7.out _ _ (by omega)) (part_one HO.out _ _) (by unfold maxLen; omega) (by omega) (by omega) ?_)
    intro v2 V2 hown2 hgrow2 _
    have hl2 : (L.eraseIdx k).length = L.length - 1 := List.length_eraseIdx_of_lt hk
    have O2 : Hid (V2.ownsRow (w.heap.size + 2) 30 3 v2 (L.eraseIdx k).length ((L.eraseIdx k).flatMap Lt.cells)) := by
      have h := hown2
      rw [moved_cells hk] at h
      unfold Hid
      rw [hl2]
      have e : L.length - 1 = k + (L.length - (k + 1)) := by omega
      rw [e]
      exact h
    have B2 := Lib.hid (owned_below' (by omega) O1.out B1.out hgrow2)
    have W0 := Lib.hid (own_keeps O1.out hgrow2 (by omega) Y0.out)
    have WP := Lib.hid (own_keeps O1.out hgrow2 (by omega) YP.out)
    have WQ := Lib.hid (own_keeps O1.out hgrow2 (by omega) YQ.out)
    have hz2' := hgrow2.size
    obtain ⟨a2, cc2, hv2⟩ := net_form O2.out
    subst hv2
    rw [hl2] at O2 ⊢
    have O2L : Hid (V2.ownsRow (w.heap.size + 2) 30 3 (.slice a2 (L.length - 1) cc2) (L.eraseIdx k).length ((L.eraseIdx k).flatMap Lt.cells)) := by
      unfold Hid
      rw [hl2]
      exact O2.out
    clear hown2 hgrow2 O1 m0 m1 m2
    obtain ⟨-, q0, q1, q2⟩ := three_cells WQ.out
    have hz3 : w.heap.size + 2 ≤ V2.heap.size := by omega
    go_wp2_with (at_builtin; refine wpList_append_own _ rfl (.tmp 68) (.tmp 70) 34 rfl (w.heap.size + 2) 30 i0 _ 3 40 Try.underlying34 hi hz0 hz1 hz2 rfl (by decide) _ _ _ rfl (O2.out.alloc _) ⟨V2.heap.size, 0, none⟩ 1 1 [.int .i64 L[k].f, .int .i64 L[k].t, .slice ab L[k].bs.length cb] rfl rfl (new_cells _ _ _) (one_lt _ _ _ _ _) (by unfold maxLen; omega) (by omega) (by simp; omega) ?_)
    intro v3 V3 hown3 hgrow3 _
    have hl3 : (L.eraseIdx k ++ [L[k]]).length = L.length - 1 + 1 := by rw [List.length_append, hl2]; rfl
    have O3L : Hid (V3.ownsRow (w.heap.size + 2) 30 3 v3 (L.eraseIdx k ++ [L[k]]).length ((L.eraseIdx k ++ [L[k]]).flatMap Lt.cells)) := by
      unfold Hid
      rw [hl3, List.flatMap_append]
      have e : [L[k]].flatMap Lt.cells = [.int .i64 L[k].f, .int .i64 L[k].t, .slice ab L[k].bs.length cb] := by
        show [_, _, L[k].bv] = _
        rw [HF.out]
      rw [e]
      exact hown3
    have ba := below_alloc V2 (.cells #[.int .i64 L[k].f, .int .i64 L[k].t, .slice ab L[k].bs.length cb] 30)
    have B3 := Lib.hid (owned_below' (by omega) (O2.out.alloc (.cells #[.int .i64 L[k].f, .int .i64 L[k].t, .slice ab L[k].bs.length cb] 30)) (B2.out.trans (ba.mono (by omega))) hgrow3)
    have X30 := Lib.hid (own_keeps (O2.out.alloc (.cells #[.int .i64 L[k].f, .int .i64 L[k].t, .slice ab L[k].bs.length cb] 30)) hgrow3 (by omega) (stays_block ba W0.out))
    have X3P := Lib.hid (own_keeps (O2.out.alloc (.cells #[.int .i64 L[k].f, .int .i64 L[k].t, .slice ab L[k].bs.length cb] 30)) hgrow3 (by omega) (stays_block ba WP.out))
    have X3Q := Lib.hid (own_keeps (O2.out.alloc (.cells #[.int .i64 L[k].f, .int .i64 L[k].t, .slice ab L[k].bs.length cb] 30)) hgrow3 (by omega) (stays_block ba WQ.out))
    obtain ⟨a3, cc3, hv3⟩ := net_form O3L.out
    subst hv3
    rw [hl3] at O3L ⊢
    have O3M : Hid (V3.ownsRow (w.heap.size + 2) 30 3 (.slice a3 (L.length - 1 + 1) cc3) (L.eraseIdx k ++ [L[k]]).length ((L.eraseIdx k ++ [L[k]]).flatMap Lt.cells)) := by
      unfold Hid
      rw [hl3]
      exact O3L.out
    have O3L := O3M
    clear hown3 hgrow3 ba q0 q1 q2
    obtain ⟨-, m0, m1, m2⟩ := three_cells X30.out
    obtain ⟨-, p0, p1, p2⟩ := three_cells X3P.out
    obtain ⟨-, q0, q1, q2⟩ := three_cells X3Q.out
    have fr1 : V3.frozen? ⟨rp, 1, none⟩ = false := free_of_row X30.out
    have fp0 : V3.frozen? ⟨w.heap.size, 0, none⟩ = false := free_of_row X3P.out
    have fp1 : V3.frozen? ⟨w.heap.size, 1, none⟩ = false := free_of_row X3P.out
    have fp2 : V3.frozen? ⟨w.heap.size, 2, none⟩ = false := free_of_row X3P.out
    have hnr : rp ≠ w.heap.size := by omega
    have hnr' : w.heap.size ≠ rp := by omega
    have hpl := lt_of_block X3P.out
    have HC := Lib.hid (fun y0 y1 y2 => ract_close (po := w.heap.size) hBp hBg HN.out HL.out B3.out rfl hpl X3P.out (L' := L.eraseIdx k ++ [L[k]]) (ownsRow_base (by omega) O3L.out) (fun l hl => by rcases List.mem_append.1 hl with h | h; exact List.mem_of_mem_eraseIdx h; simp at h; subst h; exact List.getElem_mem _) y0 y1 y2)
    clear hpl
    go_wp2_with fail
    refine bodyPost_ret (v := .tuple #[letter0, .int .i64 0]) ?_ rfl ⟨rfl, HC.out _ _ _⟩
    simp [results, letter0, Try.results21, go_sem, p0, p1, p2, hnr, hnr']
end Go.Proofs.Ytgkefciojoffgaa
