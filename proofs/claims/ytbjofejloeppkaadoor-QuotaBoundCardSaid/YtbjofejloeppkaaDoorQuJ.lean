/- The walk of law 22's QuotaEdge. -/
import Derived.Test.YtbjofejloeppkaaDoorQuH
namespace Go.Proofs.YtbjofejloeppkaaDoor
open Go.RowKit Go.Shelf Acct
set_option linter.unusedVariables false
set_option linter.unusedSimpArgs false
theorem HvAt.free {w : World} {b : Nat} {h : Hv} (hh : HvAt w b h) (j : Nat) : w.frozen? ⟨b, j, none⟩ = false := by
  unfold HvAt Hv.cells at hh
  simp [World.frozen?, hh]
theorem set_block {w : World} {b j : Nat} {cs : Array Value} {T : Nat} {u : Value} (h : w.heap[b]? = some (.cells cs T (0, 0))) : (w.setCell ⟨b, j, none⟩ u).heap[b]? = some (.cells (cs.setIfInBounds j u) T (0, 0)) := by
  have hlt := lt_of_block h
  have h' : w.heap[b] = .cells cs T (0, 0) := by simpa [Array.getElem?_eq_getElem hlt] using h
  show (w.heap.modify b _)[b]? = _
  rw [Array.getElem?_eq_getElem (by simpa using hlt), Array.getElem_modify_self, h']
  rfl
theorem HvAt.set0 {w : World} {b : Nat} {h : Hv} (hh : HvAt w b h) (n : Int) : HvAt (w.setCell ⟨b, 0, none⟩ (.int .i64 n)) b { h with dl := n } := set_block hh
theorem HvAt.set1 {w : World} {b : Nat} {h : Hv} (hh : HvAt w b h) (n : Int) : HvAt (w.setCell ⟨b, 1, none⟩ (.int .i64 n)) b { h with du := n } := set_block hh
theorem HvAt.set2 {w : World} {b : Nat} {h : Hv} (hh : HvAt w b h) (n : Int) : HvAt (w.setCell ⟨b, 2, none⟩ (.int .i64 n)) b { h with dh := n } := set_block hh
set_option maxHeartbeats 4000000 in
set_option maxRecDepth 10000000 in
theorem edge_open (dl du dh ro us he fr ou ov pk : Int) (w : World) (hP : Pow w) (ho : Hv.any ⟨dl, du, dh, ro, us, he, fr, ou, ov, pk⟩ = true) : Calls Tryd.prog 4 #[.agg #[.int .i64 dl, .int .i64 du, .int .i64 dh, .int .i64 ro, .int .i64 us, .int .i64 he, .int .i64 fr, .int .i64 ou, .int .i64 ov, .int .i64 pk]] w fun e w' => e = .returned (.bool true) ∧ Below w.heap.size w w' := by
  have Ho := Lib.hid ho
  have HP := Lib.hid hP
  have A0 := Lib.hid (hv_new w ⟨dl, du, dh, ro, us, he, fr, ou, ov, pk⟩)
  have D0 := Lib.hid (below_alloc w (Hv.cells ⟨dl, du, dh, ro, us, he, fr, ou, ov, pk⟩))
  clear hP ho
  unfold Hv.cells at A0 D0
  simp only at A0 D0
  go_enter Tryd.func4, Tryd.ntmps4
  go_wp2_with fail
  generalize w.alloc (.cells #[.int .i64 dl, .int .i64 du, .int .i64 dh, .int .i64 ro, .int .i64 us, .int .i64 he, .int .i64 fr, .int .i64 ou, .int .i64 ov, .int .i64 pk] 23) = W at *
  refine (open_any ⟨dl, du, dh, ro, us, he, fr, ou, ov, pk⟩ _).mono ?_
  rintro e w1 ⟨rfl, hb⟩
  rw [Ho.out]
  have D1 := Lib.hid (onward hb D0.out)
  have A1 := Lib.hid (A0.out.below hb)
  clear hb D0 A0
  go_wp2_with fail
  refine (qgoes_any _ (pow_below HP.out D1.out)).mono ?_
  rintro e w2 ⟨rfl, hb⟩
  have D2 := Lib.hid (onward hb D1.out)
  clear hb
  go_wp2
  go_ret
  exact ⟨rfl, D2.out⟩
set_option maxHeartbeats 4000000 in
set_option maxRecDepth 10000000 in
theorem edge_low (dl du dh ro us he fr ou ov pk : Int) (w : World) (hP : Pow w) (ho : Hv.any ⟨dl, du, dh, ro, us, he, fr, ou, ov, pk⟩ = false) (hn : (ro + pk + ov - fr - ou - he) < 1) (ha : admitI ⟨0, du, dh, ro, us, he, fr, ou, ov, pk⟩ 1 = 40) : Calls Tryd.prog 4 #[.agg #[.int .i64 dl, .int .i64 du, .int .i64 dh, .int .i64 ro, .int .i64 us, .int .i64 he, .int .i64 fr, .int .i64 ou, .int .i64 ov, .int .i64 pk]] w fun e w' => e = .returned (.bool true) ∧ Below w.heap.size w w' := by
  have Ho := Lib.hid ho
  have Ha := Lib.hid ha
  have HP := Lib.hid hP
  have A0 := Lib.hid (hv_new w ⟨dl, du, dh, ro, us, he, fr, ou, ov, pk⟩)
  have D0 := Lib.hid (below_alloc w (Hv.cells ⟨dl, du, dh, ro, us, he, fr, ou, ov, pk⟩))
  clear hP ho ha
  unfold Hv.cells at A0 D0
  simp only at A0 D0
  have OK := Lib.hid (Hv.any_no Ho.out)
  have OK' := OK.out
  unfold Hv.ok nar at OK'
  simp only at OK'
  obtain ⟨q0, q1, q2, q3, q4, q5, q6, q7, q8, q9⟩ := OK'
  have OZ : Hid (Hv.ok ⟨0, du, dh, ro, us, he, fr, ou, ov, pk⟩) := by
    unfold Hid Hv.ok nar
    simp only
    omega
  go_enter Tryd.func4, Tryd.ntmps4
  go_wp2_with fail
  generalize w.alloc (.cells #[.int .i64 dl, .int .i64 du, .int .i64 dh, .int .i64 ro, .int .i64 us, .int .i64 he, .int .i64 fr, .int .i64 ou, .int .i64 ov, .int .i64 pk] 23) = W at *
  refine (open_any ⟨dl, du, dh, ro, us, he, fr, ou, ov, pk⟩ _).mono ?_
  rintro e w1 ⟨rfl, hb⟩
  rw [Ho.out]
  have D1 := Lib.hid (onward hb D0.out)
  have A1 := Lib.hid (A0.out.below hb)
  clear hb D0 A0
  obtain ⟨c0, c1, c2, c3, c4, c5, c6, c7, c8, c9, c10⟩ := HvAt.all A1.out
  have z0 := HvAt.free A1.out 0
  have z1 := HvAt.free A1.out 1
  have z2 := HvAt.free A1.out 2
  go_wp2_with fail
  clear c1 c2 c3 c4 c5 c6 c7 c8 c9 c10
  clear z0 z1 z2
  have A2 := Lib.hid (A1.out.set0 0)
  have D2 := Lib.hid (D1.out.setCell (show w.heap.size ≤ (⟨w.heap.size, 0, none⟩ : Addr).block from Nat.le_refl _) (.int .i64 0))
  simp only at A2
  clear A1 D1
  generalize w1.setCell ⟨w.heap.size, 0, none⟩ (.int .i64 0) = V2 at *
  refine (admit_any ⟨0, du, dh, ro, us, he, fr, ou, ov, pk⟩ 1 _ OZ.out (by unfold inInt; omega)).mono ?_
  rintro e w3 ⟨rfl, hb⟩
  rw [Ha.out]
  have D3 := Lib.hid (onward hb D2.out)
  have A3 := Lib.hid (A2.out.below hb)
  clear hb D2 A2
  go_wp2_with fail
  refine (qgoes_any _ (pow_below HP.out D3.out)).mono ?_
  rintro e w4 ⟨rfl, hb⟩
  have D4 := Lib.hid (onward hb D3.out)
  clear hb
  go_wp2
  go_ret
  exact ⟨rfl, D4.out⟩
set_option maxHeartbeats 4000000 in
set_option maxRecDepth 10000000 in
theorem edge_high (dl du dh ro us he fr ou ov pk : Int) (w : World) (hP : Pow w) (ho : Hv.any ⟨dl, du, dh, ro, us, he, fr, ou, ov, pk⟩ = false) (hn : 1099511627776 < (ro + pk + ov - fr - ou - he)) : Calls Tryd.prog 4 #[.agg #[.int .i64 dl, .int .i64 du, .int .i64 dh, .int .i64 ro, .int .i64 us, .int .i64 he, .int .i64 fr, .int .i64 ou, .int .i64 ov, .int .i64 pk]] w fun e w' => e = .returned (.bool true) ∧ Below w.heap.size w w' := by
  have Ho := Lib.hid ho
  have HP := Lib.hid hP
  have A0 := Lib.hid (hv_new w ⟨dl, du, dh, ro, us, he, fr, ou, ov, pk⟩)
  have D0 := Lib.hid (below_alloc w (Hv.cells ⟨dl, du, dh, ro, us, he, fr, ou, ov, pk⟩))
  clear hP ho
  unfold Hv.cells at A0 D0
  simp only at A0 D0
  have OK := Lib.hid (Hv.any_no Ho.out)
  have OK' := OK.out
  unfold Hv.ok nar at OK'
  simp only at OK'
  obtain ⟨q0, q1, q2, q3, q4, q5, q6, q7, q8, q9⟩ := OK'
  have OZ : Hid (Hv.ok ⟨0, du, dh, ro, us, he, fr, ou, ov, pk⟩) := by
    unfold Hid Hv.ok nar
    simp only
    omega
  go_enter Tryd.func4, Tryd.ntmps4
  go_wp2_with fail
  generalize w.alloc (.cells #[.int .i64 dl, .int .i64 du, .int .i64 dh, .int .i64 ro, .int .i64 us, .int .i64 he, .int .i64 fr, .int .i64 ou, .int .i64 ov, .int .i64 pk] 23) = W at *
  refine (open_any ⟨dl, du, dh, ro, us, he, fr, ou, ov, pk⟩ _).mono ?_
  rintro e w1 ⟨rfl, hb⟩
  rw [Ho.out]
  have D1 := Lib.hid (onward hb D0.out)
  have A1 := Lib.hid (A0.out.below hb)
  clear hb D0 A0
  obtain ⟨c0, c1, c2, c3, c4, c5, c6, c7, c8, c9, c10⟩ := HvAt.all A1.out
  have z0 := HvAt.free A1.out 0
  have z1 := HvAt.free A1.out 1
  have z2 := HvAt.free A1.out 2
  go_wp2_with fail
  clear c1 c2 c3 c4 c5 c6 c7 c8 c9 c10
  clear z0 z1 z2
  have A2 := Lib.hid (A1.out.set0 0)
  have D2 := Lib.hid (D1.out.setCell (show w.heap.size ≤ (⟨w.heap.size, 0, none⟩ : Addr).block from Nat.le_refl _) (.int .i64 0))
  simp only at A2
  clear A1 D1
  generalize w1.setCell ⟨w.heap.size, 0, none⟩ (.int .i64 0) = V2 at *
  refine (qgoes_any _ (pow_below HP.out D2.out)).mono ?_
  rintro e w3 ⟨rfl, hb⟩
  have D3 := Lib.hid (onward hb D2.out)
  clear hb
  go_wp2
  go_ret
  exact ⟨rfl, D3.out⟩
set_option maxHeartbeats 4000000 in
set_option maxRecDepth 10000000 in
theorem edge_mid (dl du dh ro us he fr ou ov pk : Int) (w : World) (hP : Pow w) (ho : Hv.any ⟨dl, du, dh, ro, us, he, fr, ou, ov, pk⟩ = false) (h1 : 1 ≤ (ro + pk + ov - fr - ou - he)) (h2 : (ro + pk + ov - fr - ou - he) ≤ 1099511627776) (h3 : (ro + pk + ov - fr - ou - he) < 1099511627776) (hb : admitI ⟨0, du, dh, ro, us, he, fr, ou, ov, pk⟩ ((ro + pk + ov - fr - ou - he) + 1) = 40) (ha : admitI ⟨0, du, dh, ro, us, he, fr, ou, ov, pk⟩ (ro + pk + ov - fr - ou - he) = 0) (hc : admitI ⟨(ro + pk + ov - fr - ou - he), 0, 0, ro, us, he, fr, ou, ov, pk⟩ (ro + pk + ov - fr - ou - he) = 0) (hd : admitI ⟨(ro + pk + ov - fr - ou - he), 0, 1, ro, us, he, fr, ou, ov, pk⟩ (ro + pk + ov - fr - ou - he) = 40) : Calls Tryd.prog 4 #[.agg #[.int .i64 dl, .int .i64 du, .int .i64 dh, .int .i64 ro, .int .i64 us, .int .i64 he, .int .i64 fr, .int .i64 ou, .int .i64 ov, .int .i64 pk]] w fun e w' => e = .returned (.bool true) ∧ Below w.heap.size w w' := by
  have Ho := Lib.hid ho
  have Ha := Lib.hid ha
  have Hc := Lib.hid hc
  have Hd := Lib.hid hd
  have Hb := Lib.hid hb
  have HP := Lib.hid hP
  have A0 := Lib.hid (hv_new w ⟨dl, du, dh, ro, us, he, fr, ou, ov, pk⟩)
  have D0 := Lib.hid (below_alloc w (Hv.cells ⟨dl, du, dh, ro, us, he, fr, ou, ov, pk⟩))
  clear hP ho ha hc hd hb
  unfold Hv.cells at A0 D0
  simp only at A0 D0
  have OK := Lib.hid (Hv.any_no Ho.out)
  have OK' := OK.out
  unfold Hv.ok nar at OK'
  simp only at OK'
  obtain ⟨q0, q1, q2, q3, q4, q5, q6, q7, q8, q9⟩ := OK'
  have OZ : Hid (Hv.ok ⟨0, du, dh, ro, us, he, fr, ou, ov, pk⟩) := by
    unfold Hid Hv.ok nar
    simp only
    omega
  have O1 : Hid (Hv.ok ⟨(ro + pk + ov - fr - ou - he), 0, 0, ro, us, he, fr, ou, ov, pk⟩) := by
    unfold Hid Hv.ok nar
    simp only
    omega
  have O2 : Hid (Hv.ok ⟨(ro + pk + ov - fr - ou - he), 0, 1, ro, us, he, fr, ou, ov, pk⟩) := by
    unfold Hid Hv.ok nar
    simp only
    omega
  go_enter Tryd.func4, Tryd.ntmps4
  go_wp2_with fail
  generalize w.alloc (.cells #[.int .i64 dl, .int .i64 du, .int .i64 dh, .int .i64 ro, .int .i64 us, .int .i64 he, .int .i64 fr, .int .i64 ou, .int .i64 ov, .int .i64 pk] 23) = W at *
  refine (open_any ⟨dl, du, dh, ro, us, he, fr, ou, ov, pk⟩ _).mono ?_
  rintro e w1 ⟨rfl, hb⟩
  rw [Ho.out]
  have D1 := Lib.hid (onward hb D0.out)
  have A1 := Lib.hid (A0.out.below hb)
  clear hb D0 A0
  obtain ⟨c0, c1, c2, c3, c4, c5, c6, c7, c8, c9, c10⟩ := HvAt.all A1.out
  have z0 := HvAt.free A1.out 0
  have z1 := HvAt.free A1.out 1
  have z2 := HvAt.free A1.out 2
  go_wp2_with fail
  clear c1 c2 c3 c4 c5 c6 c7 c8 c9 c10
  clear z0 z1 z2
  have A2 := Lib.hid (A1.out.set0 0)
  have D2 := Lib.hid (D1.out.setCell (show w.heap.size ≤ (⟨w.heap.size, 0, none⟩ : Addr).block from Nat.le_refl _) (.int .i64 0))
  simp only at A2
  clear A1 D1
  generalize w1.setCell ⟨w.heap.size, 0, none⟩ (.int .i64 0) = V2 at *
  refine (admit_any ⟨0, du, dh, ro, us, he, fr, ou, ov, pk⟩ _ _ OZ.out (by unfold inInt; omega)).mono ?_
  rintro e w3 ⟨rfl, hb⟩
  rw [Ha.out]
  have D3 := Lib.hid (onward hb D2.out)
  have A3 := Lib.hid (A2.out.below hb)
  clear hb D2 A2
  obtain ⟨c0, c1, c2, c3, c4, c5, c6, c7, c8, c9, c10⟩ := HvAt.all A3.out
  have z0 := HvAt.free A3.out 0
  have z1 := HvAt.free A3.out 1
  have z2 := HvAt.free A3.out 2
  go_wp2_with fail
  clear c1 c2 c3 c4 c5 c6 c7 c8 c9 c10
  clear z0 z1 z2
  refine (admit_any ⟨0, du, dh, ro, us, he, fr, ou, ov, pk⟩ _ _ OZ.out (by unfold inInt; omega)).mono ?_
  rintro e w4 ⟨rfl, hb⟩
  rw [Hb.out]
  have D4 := Lib.hid (onward hb D3.out)
  have A4 := Lib.hid (A3.out.below hb)
  clear hb D3 A3
  obtain ⟨c0, c1, c2, c3, c4, c5, c6, c7, c8, c9, c10⟩ := HvAt.all A4.out
  have z0 := HvAt.free A4.out 0
  have z1 := HvAt.free A4.out 1
  have z2 := HvAt.free A4.out 2
  go_wp2_with fail
  clear c1 c2 c3 c4 c5 c6 c7 c8 c9 c10
  clear z0 z1 z2
  have A5 := Lib.hid (A4.out.set0 (ro + pk + ov - fr - ou - he))
  have D5 := Lib.hid (D4.out.setCell (show w.heap.size ≤ (⟨w.heap.size, 0, none⟩ : Addr).block from Nat.le_refl _) (.int .i64 (ro + pk + ov - fr - ou - he)))
  simp only at A5
  clear A4 D4
  generalize w4.setCell ⟨w.heap.size, 0, none⟩ (.int .i64 (ro + pk + ov - fr - ou - he)) = V5 at *
  have A6 := Lib.hid (A5.out.set1 0)
  have D6 := Lib.hid (D5.out.setCell (show w.heap.size ≤ (⟨w.heap.size, 1, none⟩ : Addr).block from Nat.le_refl _) (.int .i64 0))
  simp only at A6
  clear A5 D5
  generalize V5.setCell ⟨w.heap.size, 1, none⟩ (.int .i64 0) = V6 at *
  have A7 := Lib.hid (A6.out.set2 0)
  have D7 := Lib.hid (D6.out.setCell (show w.heap.size ≤ (⟨w.heap.size, 2, none⟩ : Addr).block from Nat.le_refl _) (.int .i64 0))
  simp only at A7
  clear A6 D6
  generalize V6.setCell ⟨w.heap.size, 2, none⟩ (.int .i64 0) = V7 at *
  refine (admit_any ⟨(ro + pk + ov - fr - ou - he), 0, 0, ro, us, he, fr, ou, ov, pk⟩ _ _ O1.out (by unfold inInt; omega)).mono ?_
  rintro e w8 ⟨rfl, hb⟩
  rw [Hc.out]
  have D8 := Lib.hid (onward hb D7.out)
  have A8 := Lib.hid (A7.out.below hb)
  clear hb D7 A7
  obtain ⟨c0, c1, c2, c3, c4, c5, c6, c7, c8, c9, c10⟩ := HvAt.all A8.out
  have z0 := HvAt.free A8.out 0
  have z1 := HvAt.free A8.out 1
  have z2 := HvAt.free A8.out 2
  go_wp2_with fail
  clear c1 c2 c3 c4 c5 c6 c7 c8 c9 c10
  clear z0 z1 z2
  have A9 := Lib.hid (A8.out.set2 1)
  have D9 := Lib.hid (D8.out.setCell (show w.heap.size ≤ (⟨w.heap.size, 2, none⟩ : Addr).block from Nat.le_refl _) (.int .i64 1))
  simp only at A9
  clear A8 D8
  generalize w8.setCell ⟨w.heap.size, 2, none⟩ (.int .i64 1) = V9 at *
  refine (admit_any ⟨(ro + pk + ov - fr - ou - he), 0, 1, ro, us, he, fr, ou, ov, pk⟩ _ _ O2.out (by unfold inInt; omega)).mono ?_
  rintro e w10 ⟨rfl, hb⟩
  rw [Hd.out]
  have D10 := Lib.hid (onward hb D9.out)
  have A10 := Lib.hid (A9.out.below hb)
  clear hb D9 A9
  go_wp2_with fail
  refine (qgoes_any _ (pow_below HP.out D10.out)).mono ?_
  rintro e w11 ⟨rfl, hb⟩
  have D11 := Lib.hid (onward hb D10.out)
  clear hb
  go_wp2
  go_ret
  exact ⟨rfl, D11.out⟩
set_option maxHeartbeats 4000000 in
set_option maxRecDepth 10000000 in
theorem edge_max (dl du dh ro us he fr ou ov pk : Int) (w : World) (hP : Pow w) (ho : Hv.any ⟨dl, du, dh, ro, us, he, fr, ou, ov, pk⟩ = false) (h1 : 1 ≤ (ro + pk + ov - fr - ou - he)) (h2 : (ro + pk + ov - fr - ou - he) ≤ 1099511627776) (h3 : 1099511627776 ≤ (ro + pk + ov - fr - ou - he)) (ha : admitI ⟨0, du, dh, ro, us, he, fr, ou, ov, pk⟩ (ro + pk + ov - fr - ou - he) = 0) (hc : admitI ⟨(ro + pk + ov - fr - ou - he), 0, 0, ro, us, he, fr, ou, ov, pk⟩ (ro + pk + ov - fr - ou - he) = 0) (hd : admitI ⟨(ro + pk + ov - fr - ou - he), 0, 1, ro, us, he, fr, ou, ov, pk⟩ (ro + pk + ov - fr - ou - he) = 40) : Calls Tryd.prog 4 #[.agg #[.int .i64 dl, .int .i64 du, .int .i64 dh, .int .i64 ro, .int .i64 us, .int .i64 he, .int .i64 fr, .int .i64 ou, .int .i64 ov, .int .i64 pk]] w fun e w' => e = .returned (.bool true) ∧ Below w.heap.size w w' := by
  have Ho := Lib.hid ho
  have Ha := Lib.hid ha
  have Hc := Lib.hid hc
  have Hd := Lib.hid hd
  have HP := Lib.hid hP
  have A0 := Lib.hid (hv_new w ⟨dl, du, dh, ro, us, he, fr, ou, ov, pk⟩)
  have D0 := Lib.hid (below_alloc w (Hv.cells ⟨dl, du, dh, ro, us, he, fr, ou, ov, pk⟩))
  clear hP ho ha hc hd
  unfold Hv.cells at A0 D0
  simp only at A0 D0
  have OK := Lib.hid (Hv.any_no Ho.out)
  have OK' := OK.out
  unfold Hv.ok nar at OK'
  simp only at OK'
  obtain ⟨q0, q1, q2, q3, q4, q5, q6, q7, q8, q9⟩ := OK'
  have OZ : Hid (Hv.ok ⟨0, du, dh, ro, us, he, fr, ou, ov, pk⟩) := by
    unfold Hid Hv.ok nar
    simp only
    omega
  have O1 : Hid (Hv.ok ⟨(ro + pk + ov - fr - ou - he), 0, 0, ro, us, he, fr, ou, ov, pk⟩) := by
    unfold Hid Hv.ok nar
    simp only
    omega
  have O2 : Hid (Hv.ok ⟨(ro + pk + ov - fr - ou - he), 0, 1, ro, us, he, fr, ou, ov, pk⟩) := by
    unfold Hid Hv.ok nar
    simp only
    omega
  go_enter Tryd.func4, Tryd.ntmps4
  go_wp2_with fail
  generalize w.alloc (.cells #[.int .i64 dl, .int .i64 du, .int .i64 dh, .int .i64 ro, .int .i64 us, .int .i64 he, .int .i64 fr, .int .i64 ou, .int .i64 ov, .int .i64 pk] 23) = W at *
  refine (open_any ⟨dl, du, dh, ro, us, he, fr, ou, ov, pk⟩ _).mono ?_
  rintro e w1 ⟨rfl, hb⟩
  rw [Ho.out]
  have D1 := Lib.hid (onward hb D0.out)
  have A1 := Lib.hid (A0.out.below hb)
  clear hb D0 A0
  obtain ⟨c0, c1, c2, c3, c4, c5, c6, c7, c8, c9, c10⟩ := HvAt.all A1.out
  have z0 := HvAt.free A1.out 0
  have z1 := HvAt.free A1.out 1
  have z2 := HvAt.free A1.out 2
  go_wp2_with fail
  clear c1 c2 c3 c4 c5 c6 c7 c8 c9 c10
  clear z0 z1 z2
  have A2 := Lib.hid (A1.out.set0 0)
  have D2 := Lib.hid (D1.out.setCell (show w.heap.size ≤ (⟨w.heap.size, 0, none⟩ : Addr).block from Nat.le_refl _) (.int .i64 0))
  simp only at A2
  clear A1 D1
  generalize w1.setCell ⟨w.heap.size, 0, none⟩ (.int .i64 0) = V2 at *
  refine (admit_any ⟨0, du, dh, ro, us, he, fr, ou, ov, pk⟩ _ _ OZ.out (by unfold inInt; omega)).mono ?_
  rintro e w3 ⟨rfl, hb⟩
  rw [Ha.out]
  have D3 := Lib.hid (onward hb D2.out)
  have A3 := Lib.hid (A2.out.below hb)
  clear hb D2 A2
  obtain ⟨c0, c1, c2, c3, c4, c5, c6, c7, c8, c9, c10⟩ := HvAt.all A3.out
  have z0 := HvAt.free A3.out 0
  have z1 := HvAt.free A3.out 1
  have z2 := HvAt.free A3.out 2
  go_wp2_with fail
  clear c1 c2 c3 c4 c5 c6 c7 c8 c9 c10
  clear z0 z1 z2
  have A4 := Lib.hid (A3.out.set0 (ro + pk + ov - fr - ou - he))
  have D4 := Lib.hid (D3.out.setCell (show w.heap.size ≤ (⟨w.heap.size, 0, none⟩ : Addr).block from Nat.le_refl _) (.int .i64 (ro + pk + ov - fr - ou - he)))
  simp only at A4
  clear A3 D3
  generalize w3.setCell ⟨w.heap.size, 0, none⟩ (.int .i64 (ro + pk + ov - fr - ou - he)) = V4 at *
  have A5 := Lib.hid (A4.out.set1 0)
  have D5 := Lib.hid (D4.out.setCell (show w.heap.size ≤ (⟨w.heap.size, 1, none⟩ : Addr).block from Nat.le_refl _) (.int .i64 0))
  simp only at A5
  clear A4 D4
  generalize V4.setCell ⟨w.heap.size, 1, none⟩ (.int .i64 0) = V5 at *
  have A6 := Lib.hid (A5.out.set2 0)
  have D6 := Lib.hid (D5.out.setCell (show w.heap.size ≤ (⟨w.heap.size, 2, none⟩ : Addr).block from Nat.le_refl _) (.int .i64 0))
  simp only at A6
  clear A5 D5
  generalize V5.setCell ⟨w.heap.size, 2, none⟩ (.int .i64 0) = V6 at *
  refine (admit_any ⟨(ro + pk + ov - fr - ou - he), 0, 0, ro, us, he, fr, ou, ov, pk⟩ _ _ O1.out (by unfold inInt; omega)).mono ?_
  rintro e w7 ⟨rfl, hb⟩
  rw [Hc.out]
  have D7 := Lib.hid (onward hb D6.out)
  have A7 := Lib.hid (A6.out.below hb)
  clear hb D6 A6
  obtain ⟨c0, c1, c2, c3, c4, c5, c6, c7, c8, c9, c10⟩ := HvAt.all A7.out
  have z0 := HvAt.free A7.out 0
  have z1 := HvAt.free A7.out 1
  have z2 := HvAt.free A7.out 2
  go_wp2_with fail
  clear c1 c2 c3 c4 c5 c6 c7 c8 c9 c10
  clear z0 z1 z2
  have A8 := Lib.hid (A7.out.set2 1)
  have D8 := Lib.hid (D7.out.setCell (show w.heap.size ≤ (⟨w.heap.size, 2, none⟩ : Addr).block from Nat.le_refl _) (.int .i64 1))
  simp only at A8
  clear A7 D7
  generalize w7.setCell ⟨w.heap.size, 2, none⟩ (.int .i64 1) = V8 at *
  refine (admit_any ⟨(ro + pk + ov - fr - ou - he), 0, 1, ro, us, he, fr, ou, ov, pk⟩ _ _ O2.out (by unfold inInt; omega)).mono ?_
  rintro e w9 ⟨rfl, hb⟩
  rw [Hd.out]
  have D9 := Lib.hid (onward hb D8.out)
  have A9 := Lib.hid (A8.out.below hb)
  clear hb D8 A8
  go_wp2_with fail
  refine (qgoes_any _ (pow_below HP.out D9.out)).mono ?_
  rintro e w10 ⟨rfl, hb⟩
  have D10 := Lib.hid (onward hb D9.out)
  clear hb
  go_wp2
  go_ret
  exact ⟨rfl, D10.out⟩
theorem edge_any (h : Hv) (w : World) (hP : Pow w) : Calls Tryd.prog 4 #[h.val] w fun e w' => e = .returned (.bool true) ∧ Below w.heap.size w w' := by
  obtain ⟨dl, du, dh, ro, us, he, fr, ou, ov, pk⟩ := h
  cases ho : Hv.any ⟨dl, du, dh, ro, us, he, fr, ou, ov, pk⟩
  case true => exact edge_open _ _ _ _ _ _ _ _ _ _ w hP ho
  have OK' := Hv.any_no ho
  unfold Hv.ok nar at OK'
  simp only at OK'
  obtain ⟨q0, q1, q2, q3, q4, q5, q6, q7, q8, q9⟩ := OK'
  by_cases h1 : (ro + pk + ov - fr - ou - he) < 1
  · exact edge_low _ _ _ _ _ _ _ _ _ _ w hP ho h1 (by unfold admitI; simp only; rw [if_neg (by omega), if_neg (by omega), if_pos (by omega)])
  by_cases h2 : 1099511627776 < (ro + pk + ov - fr - ou - he)
  · exact edge_high _ _ _ _ _ _ _ _ _ _ w hP ho h2
  have ha : admitI ⟨0, du, dh, ro, us, he, fr, ou, ov, pk⟩ (ro + pk + ov - fr - ou - he) = 0 := by unfold admitI; simp only; rw [if_neg (by omega), if_neg (by omega), if_neg (by omega)]
  have hc : admitI ⟨(ro + pk + ov - fr - ou - he), 0, 0, ro, us, he, fr, ou, ov, pk⟩ (ro + pk + ov - fr - ou - he) = 0 := by unfold admitI; simp only; rw [if_neg (by omega), if_neg (by omega), if_neg (by omega)]
  have hd : admitI ⟨(ro + pk + ov - fr - ou - he), 0, 1, ro, us, he, fr, ou, ov, pk⟩ (ro + pk + ov - fr - ou - he) = 40 := by unfold admitI; simp only; rw [if_neg (by omega), if_pos (by omega)]
  have g1 : 1 ≤ (ro + pk + ov - fr - ou - he) := by omega
  have g2 : (ro + pk + ov - fr - ou - he) ≤ 1099511627776 := by omega
  by_cases h3 : (ro + pk + ov - fr - ou - he) < 1099511627776
  · exact edge_mid _ _ _ _ _ _ _ _ _ _ w hP ho g1 g2 h3 (by unfold admitI; simp only; rw [if_neg (by omega), if_neg (by omega), if_pos (by omega)]) ha hc hd
  · have g3 : 1099511627776 ≤ (ro + pk + ov - fr - ou - he) := by omega
    exact edge_max _ _ _ _ _ _ _ _ _ _ w hP ho g1 g2 g3 ha hc hd
end Go.Proofs.YtbjofejloeppkaaDoor
