/- The walks of law 22's far and open. -/
import Derived.Test.YtbjofejloeppkaaDoorQuF
namespace Go.Proofs.YtbjofejloeppkaaDoor
open Go.RowKit Go.Shelf Acct
set_option linter.unusedVariables false
set_option linter.unusedSimpArgs false
def farB (n : Int) : Bool := decide (n < 0) || decide (1152921504606846976 < n)
theorem farB_no {n : Int} : farB n = false ↔ nar n := by unfold farB nar; simp
set_option maxHeartbeats 400000 in
theorem far_any (n : Int) (w : World) : Calls Tryd.prog 12 #[.int .i64 n] w fun e w' => e = .returned (.bool (farB n)) ∧ w = w' := by
  go_enter Tryd.func12, Tryd.ntmps12
  go_wp2
  all_goals (go_ret; refine ⟨ret_bool ?_, rfl⟩; unfold farB; simp; try omega)
def Hv.any (h : Hv) : Bool := farB h.dl || farB h.du || farB h.dh || farB h.ro || farB h.us || farB h.he || farB h.fr || farB h.ou || farB h.ov || farB h.pk
theorem Hv.any_no {h : Hv} (e : h.any = false) : h.ok := by
  unfold Hv.any at e
  simp only [Bool.or_eq_false_iff, farB_no] at e
  unfold Hv.ok
  simp only [e, and_self]
set_option maxHeartbeats 1000000 in
set_option maxRecDepth 1000000 in
theorem open_0 (dl du dh ro us he fr ou ov pk : Int) (w : World)  (h0 : farB dl = true) : Calls Tryd.prog 6 #[.agg #[.int .i64 dl, .int .i64 du, .int .i64 dh, .int .i64 ro, .int .i64 us, .int .i64 he, .int .i64 fr, .int .i64 ou, .int .i64 ov, .int .i64 pk]] w fun e w' => e = .returned (.bool true) ∧ Below w.heap.size w w' := by
  have HB := Lib.hid (below_alloc w (.cells #[.int .i64 dl, .int .i64 du, .int .i64 dh, .int .i64 ro, .int .i64 us, .int .i64 he, .int .i64 fr, .int .i64 ou, .int .i64 ov, .int .i64 pk] 23))
  have H0 := Lib.hid h0
  clear h0
  go_enter Tryd.func6, Tryd.ntmps6
  go_wp2_with (go_at_call 12; refine (far_any _ _).mono ?_; rintro e w' ⟨rfl, rfl⟩; (first | rw [H0.out]))
  go_ret
  exact ⟨rfl, HB.out⟩
set_option maxHeartbeats 1000000 in
set_option maxRecDepth 1000000 in
theorem open_1 (dl du dh ro us he fr ou ov pk : Int) (w : World) (h0 : farB dl = false) (h1 : farB du = true) : Calls Tryd.prog 6 #[.agg #[.int .i64 dl, .int .i64 du, .int .i64 dh, .int .i64 ro, .int .i64 us, .int .i64 he, .int .i64 fr, .int .i64 ou, .int .i64 ov, .int .i64 pk]] w fun e w' => e = .returned (.bool true) ∧ Below w.heap.size w w' := by
  have HB := Lib.hid (below_alloc w (.cells #[.int .i64 dl, .int .i64 du, .int .i64 dh, .int .i64 ro, .int .i64 us, .int .i64 he, .int .i64 fr, .int .i64 ou, .int .i64 ov, .int .i64 pk] 23))
  have H0 := Lib.hid h0
  have H1 := Lib.hid h1
  clear h0 h1
  go_enter Tryd.func6, Tryd.ntmps6
  go_wp2_with (go_at_call 12; refine (far_any _ _).mono ?_; rintro e w' ⟨rfl, rfl⟩; (first | rw [H0.out] | rw [H1.out]))
  go_ret
  exact ⟨rfl, HB.out⟩
set_option maxHeartbeats 1000000 in
set_option maxRecDepth 1000000 in
theorem open_2 (dl du dh ro us he fr ou ov pk : Int) (w : World) (h0 : farB dl = false) (h1 : farB du = false) (h2 : farB dh = true) : Calls Tryd.prog 6 #[.agg #[.int .i64 dl, .int .i64 du, .int .i64 dh, .int .i64 ro, .int .i64 us, .int .i64 he, .int .i64 fr, .int .i64 ou, .int .i64 ov, .int .i64 pk]] w fun e w' => e = .returned (.bool true) ∧ Below w.heap.size w w' := by
  have HB := Lib.hid (below_alloc w (.cells #[.int .i64 dl, .int .i64 du, .int .i64 dh, .int .i64 ro, .int .i64 us, .int .i64 he, .int .i64 fr, .int .i64 ou, .int .i64 ov, .int .i64 pk] 23))
  have H0 := Lib.hid h0
  have H1 := Lib.hid h1
  have H2 := Lib.hid h2
  clear h0 h1 h2
  go_enter Tryd.func6, Tryd.ntmps6
  go_wp2_with (go_at_call 12; refine (far_any _ _).mono ?_; rintro e w' ⟨rfl, rfl⟩; (first | rw [H0.out] | rw [H1.out] | rw [H2.out]))
  go_ret
  exact ⟨rfl, HB.out⟩
set_option maxHeartbeats 1000000 in
set_option maxRecDepth 1000000 in
theorem open_3 (dl du dh ro us he fr ou ov pk : Int) (w : World) (h0 : farB dl = false) (h1 : farB du = false) (h2 : farB dh = false) (h3 : farB ro = true) : Calls Tryd.prog 6 #[.agg #[.int .i64 dl, .int .i64 du, .int .i64 dh, .int .i64 ro, .int .i64 us, .int .i64 he, .int .i64 fr, .int .i64 ou, .int .i64 ov, .int .i64 pk]] w fun e w' => e = .returned (.bool true) ∧ Below w.heap.size w w' := by
  have HB := Lib.hid (below_alloc w (.cells #[.int .i64 dl, .int .i64 du, .int .i64 dh, .int .i64 ro, .int .i64 us, .int .i64 he, .int .i64 fr, .int .i64 ou, .int .i64 ov, .int .i64 pk] 23))
  have H0 := Lib.hid h0
  have H1 := Lib.hid h1
  have H2 := Lib.hid h2
  have H3 := Lib.hid h3
  clear h0 h1 h2 h3
  go_enter Tryd.func6, Tryd.ntmps6
  go_wp2_with (go_at_call 12; refine (far_any _ _).mono ?_; rintro e w' ⟨rfl, rfl⟩; (first | rw [H0.out] | rw [H1.out] | rw [H2.out] | rw [H3.out]))
  go_ret
  exact ⟨rfl, HB.out⟩
set_option maxHeartbeats 1000000 in
set_option maxRecDepth 1000000 in
theorem open_4 (dl du dh ro us he fr ou ov pk : Int) (w : World) (h0 : farB dl = false) (h1 : farB du = false) (h2 : farB dh = false) (h3 : farB ro = false) (h4 : farB us = true) : Calls Tryd.prog 6 #[.agg #[.int .i64 dl, .int .i64 du, .int .i64 dh, .int .i64 ro, .int .i64 us, .int .i64 he, .int .i64 fr, .int .i64 ou, .int .i64 ov, .int .i64 pk]] w fun e w' => e = .returned (.bool true) ∧ Below w.heap.size w w' := by
  have HB := Lib.hid (below_alloc w (.cells #[.int .i64 dl, .int .i64 du, .int .i64 dh, .int .i64 ro, .int .i64 us, .int .i64 he, .int .i64 fr, .int .i64 ou, .int .i64 ov, .int .i64 pk] 23))
  have H0 := Lib.hid h0
  have H1 := Lib.hid h1
  have H2 := Lib.hid h2
  have H3 := Lib.hid h3
  have H4 := Lib.hid h4
  clear h0 h1 h2 h3 h4
  go_enter Tryd.func6, Tryd.ntmps6
  go_wp2_with (go_at_call 12; refine (far_any _ _).mono ?_; rintro e w' ⟨rfl, rfl⟩; (first | rw [H0.out] | rw [H1.out] | rw [H2.out] | rw [H3.out] | rw [H4.out]))
  go_ret
  exact ⟨rfl, HB.out⟩
set_option maxHeartbeats 1000000 in
set_option maxRecDepth 1000000 in
theorem open_5 (dl du dh ro us he fr ou ov pk : Int) (w : World) (h0 : farB dl = false) (h1 : farB du = false) (h2 : farB dh = false) (h3 : farB ro = false) (h4 : farB us = false) (h5 : farB he = true) : Calls Tryd.prog 6 #[.agg #[.int .i64 dl, .int .i64 du, .int .i64 dh, .int .i64 ro, .int .i64 us, .int .i64 he, .int .i64 fr, .int .i64 ou, .int .i64 ov, .int .i64 pk]] w fun e w' => e = .returned (.bool true) ∧ Below w.heap.size w w' := by
  have HB := Lib.hid (below_alloc w (.cells #[.int .i64 dl, .int .i64 du, .int .i64 dh, .int .i64 ro, .int .i64 us, .int .i64 he, .int .i64 fr, .int .i64 ou, .int .i64 ov, .int .i64 pk] 23))
  have H0 := Lib.hid h0
  have H1 := Lib.hid h1
  have H2 := Lib.hid h2
  have H3 := Lib.hid h3
  have H4 := Lib.hid h4
  have H5 := Lib.hid h5
  clear h0 h1 h2 h3 h4 h5
  go_enter Tryd.func6, Tryd.ntmps6
  go_wp2_with (go_at_call 12; refine (far_any _ _).mono ?_; rintro e w' ⟨rfl, rfl⟩; (first | rw [H0.out] | rw [H1.out] | rw [H2.out] | rw [H3.out] | rw [H4.out] | rw [H5.out]))
  go_ret
  exact ⟨rfl, HB.out⟩
set_option maxHeartbeats 1000000 in
set_option maxRecDepth 1000000 in
theorem open_6 (dl du dh ro us he fr ou ov pk : Int) (w : World) (h0 : farB dl = false) (h1 : farB du = false) (h2 : farB dh = false) (h3 : farB ro = false) (h4 : farB us = false) (h5 : farB he = false) (h6 : farB fr = true) : Calls Tryd.prog 6 #[.agg #[.int .i64 dl, .int .i64 du, .int .i64 dh, .int .i64 ro, .int .i64 us, .int .i64 he, .int .i64 fr, .int .i64 ou, .int .i64 ov, .int .i64 pk]] w fun e w' => e = .returned (.bool true) ∧ Below w.heap.size w w' := by
  have HB := Lib.hid (below_alloc w (.cells #[.int .i64 dl, .int .i64 du, .int .i64 dh, .int .i64 ro, .int .i64 us, .int .i64 he, .int .i64 fr, .int .i64 ou, .int .i64 ov, .int .i64 pk] 23))
  have H0 := Lib.hid h0
  have H1 := Lib.hid h1
  have H2 := Lib.hid h2
  have H3 := Lib.hid h3
  have H4 := Lib.hid h4
  have H5 := Lib.hid h5
  have H6 := Lib.hid h6
  clear h0 h1 h2 h3 h4 h5 h6
  go_enter Tryd.func6, Tryd.ntmps6
  go_wp2_with (go_at_call 12; refine (far_any _ _).mono ?_; rintro e w' ⟨rfl, rfl⟩; (first | rw [H0.out] | rw [H1.out] | rw [H2.out] | rw [H3.out] | rw [H4.out] | rw [H5.out] | rw [H6.out]))
  go_ret
  exact ⟨rfl, HB.out⟩
set_option maxHeartbeats 1000000 in
set_option maxRecDepth 1000000 in
theorem open_7 (dl du dh ro us he fr ou ov pk : Int) (w : World) (h0 : farB dl = false) (h1 : farB du = false) (h2 : farB dh = false) (h3 : farB ro = false) (h4 : farB us = false) (h5 : farB he = false) (h6 : farB fr = false) (h7 : farB ou = true) : Calls Tryd.prog 6 #[.agg #[.int .i64 dl, .int .i64 du, .int .i64 dh, .int .i64 ro, .int .i64 us, .int .i64 he, .int .i64 fr, .int .i64 ou, .int .i64 ov, .int .i64 pk]] w fun e w' => e = .returned (.bool true) ∧ Below w.heap.size w w' := by
  have HB := Lib.hid (below_alloc w (.cells #[.int .i64 dl, .int .i64 du, .int .i64 dh, .int .i64 ro, .int .i64 us, .int .i64 he, .int .i64 fr, .int .i64 ou, .int .i64 ov, .int .i64 pk] 23))
  have H0 := Lib.hid h0
  have H1 := Lib.hid h1
  have H2 := Lib.hid h2
  have H3 := Lib.hid h3
  have H4 := Lib.hid h4
  have H5 := Lib.hid h5
  have H6 := Lib.hid h6
  have H7 := Lib.hid h7
  clear h0 h1 h2 h3 h4 h5 h6 h7
  go_enter Tryd.func6, Tryd.ntmps6
  go_wp2_with (go_at_call 12; refine (far_any _ _).mono ?_; rintro e w' ⟨rfl, rfl⟩; (first | rw [H0.out] | rw [H1.out] | rw [H2.out] | rw [H3.out] | rw [H4.out] | rw [H5.out] | rw [H6.out] | rw [H7.out]))
  go_ret
  exact ⟨rfl, HB.out⟩
set_option maxHeartbeats 1000000 in
set_option maxRecDepth 1000000 in
theorem open_8 (dl du dh ro us he fr ou ov pk : Int) (w : World) (h0 : farB dl = false) (h1 : farB du = false) (h2 : farB dh = false) (h3 : farB ro = false) (h4 : farB us = false) (h5 : farB he = false) (h6 : farB fr = false) (h7 : farB ou = false) (h8 : farB ov = true) : Calls Tryd.prog 6 #[.agg #[.int .i64 dl, .int .i64 du, .int .i64 dh, .int .i64 ro, .int .i64 us, .int .i64 he, .int .i64 fr, .int .i64 ou, .int .i64 ov, .int .i64 pk]] w fun e w' => e = .returned (.bool true) ∧ Below w.heap.size w w' := by
  have HB := Lib.hid (below_alloc w (.cells #[.int .i64 dl, .int .i64 du, .int .i64 dh, .int .i64 ro, .int .i64 us, .int .i64 he, .int .i64 fr, .int .i64 ou, .int .i64 ov, .int .i64 pk] 23))
  have H0 := Lib.hid h0
  have H1 := Lib.hid h1
  have H2 := Lib.hid h2
  have H3 := Lib.hid h3
  have H4 := Lib.hid h4
  have H5 := Lib.hid h5
  have H6 := Lib.hid h6
  have H7 := Lib.hid h7
  have H8 := Lib.hid h8
  clear h0 h1 h2 h3 h4 h5 h6 h7 h8
  go_enter Tryd.func6, Tryd.ntmps6
  go_wp2_with (go_at_call 12; refine (far_any _ _).mono ?_; rintro e w' ⟨rfl, rfl⟩; (first | rw [H0.out] | rw [H1.out] | rw [H2.out] | rw [H3.out] | rw [H4.out] | rw [H5.out] | rw [H6.out] | rw [H7.out] | rw [H8.out]))
  go_ret
  exact ⟨rfl, HB.out⟩
set_option maxHeartbeats 1000000 in
set_option maxRecDepth 1000000 in
theorem open_9 (dl du dh ro us he fr ou ov pk : Int) (w : World) (h0 : farB dl = false) (h1 : farB du = false) (h2 : farB dh = false) (h3 : farB ro = false) (h4 : farB us = false) (h5 : farB he = false) (h6 : farB fr = false) (h7 : farB ou = false) (h8 : farB ov = false) (h9 : farB pk = true) : Calls Tryd.prog 6 #[.agg #[.int .i64 dl, .int .i64 du, .int .i64 dh, .int .i64 ro, .int .i64 us, .int .i64 he, .int .i64 fr, .int .i64 ou, .int .i64 ov, .int .i64 pk]] w fun e w' => e = .returned (.bool true) ∧ Below w.heap.size w w' := by
  have HB := Lib.hid (below_alloc w (.cells #[.int .i64 dl, .int .i64 du, .int .i64 dh, .int .i64 ro, .int .i64 us, .int .i64 he, .int .i64 fr, .int .i64 ou, .int .i64 ov, .int .i64 pk] 23))
  have H0 := Lib.hid h0
  have H1 := Lib.hid h1
  have H2 := Lib.hid h2
  have H3 := Lib.hid h3
  have H4 := Lib.hid h4
  have H5 := Lib.hid h5
  have H6 := Lib.hid h6
  have H7 := Lib.hid h7
  have H8 := Lib.hid h8
  have H9 := Lib.hid h9
  clear h0 h1 h2 h3 h4 h5 h6 h7 h8 h9
  go_enter Tryd.func6, Tryd.ntmps6
  go_wp2_with (go_at_call 12; refine (far_any _ _).mono ?_; rintro e w' ⟨rfl, rfl⟩; (first | rw [H0.out] | rw [H1.out] | rw [H2.out] | rw [H3.out] | rw [H4.out] | rw [H5.out] | rw [H6.out] | rw [H7.out] | rw [H8.out] | rw [H9.out]))
  go_ret
  exact ⟨rfl, HB.out⟩
set_option maxHeartbeats 1000000 in
set_option maxRecDepth 1000000 in
theorem open_10 (dl du dh ro us he fr ou ov pk : Int) (w : World) (h0 : farB dl = false) (h1 : farB du = false) (h2 : farB dh = false) (h3 : farB ro = false) (h4 : farB us = false) (h5 : farB he = false) (h6 : farB fr = false) (h7 : farB ou = false) (h8 : farB ov = false) (h9 : farB pk = false) : Calls Tryd.prog 6 #[.agg #[.int .i64 dl, .int .i64 du, .int .i64 dh, .int .i64 ro, .int .i64 us, .int .i64 he, .int .i64 fr, .int .i64 ou, .int .i64 ov, .int .i64 pk]] w fun e w' => e = .returned (.bool false) ∧ Below w.heap.size w w' := by
  have HB := Lib.hid (below_alloc w (.cells #[.int .i64 dl, .int .i64 du, .int .i64 dh, .int .i64 ro, .int .i64 us, .int .i64 he, .int .i64 fr, .int .i64 ou, .int .i64 ov, .int .i64 pk] 23))
  have H0 := Lib.hid h0
  have H1 := Lib.hid h1
  have H2 := Lib.hid h2
  have H3 := Lib.hid h3
  have H4 := Lib.hid h4
  have H5 := Lib.hid h5
  have H6 := Lib.hid h6
  have H7 := Lib.hid h7
  have H8 := Lib.hid h8
  have H9 := Lib.hid h9
  clear h0 h1 h2 h3 h4 h5 h6 h7 h8 h9
  go_enter Tryd.func6, Tryd.ntmps6
  go_wp2_with (go_at_call 12; refine (far_any _ _).mono ?_; rintro e w' ⟨rfl, rfl⟩; (first | rw [H0.out] | rw [H1.out] | rw [H2.out] | rw [H3.out] | rw [H4.out] | rw [H5.out] | rw [H6.out] | rw [H7.out] | rw [H8.out] | rw [H9.out]))
  go_ret
  exact ⟨rfl, HB.out⟩
theorem open_any (h : Hv) (w : World) : Calls Tryd.prog 6 #[h.val] w fun e w' => e = .returned (.bool h.any) ∧ Below w.heap.size w w' := by
  obtain ⟨dl, du, dh, ro, us, he, fr, ou, ov, pk⟩ := h
  cases h0 : farB dl
  case true => exact (open_0 _ _ _ _ _ _ _ _ _ _ w h0).mono fun _ _ ⟨e, b⟩ => ⟨e.trans (ret_bool (by simp [Hv.any, *])), b⟩
  cases h1 : farB du
  case true => exact (open_1 _ _ _ _ _ _ _ _ _ _ w h0 h1).mono fun _ _ ⟨e, b⟩ => ⟨e.trans (ret_bool (by simp [Hv.any, *])), b⟩
  cases h2 : farB dh
  case true => exact (open_2 _ _ _ _ _ _ _ _ _ _ w h0 h1 h2).mono fun _ _ ⟨e, b⟩ => ⟨e.trans (ret_bool (by simp [Hv.any, *])), b⟩
  cases h3 : farB ro
  case true => exact (open_3 _ _ _ _ _ _ _ _ _ _ w h0 h1 h2 h3).mono fun _ _ ⟨e, b⟩ => ⟨e.trans (ret_bool (by simp [Hv.any, *])), b⟩
  cases h4 : farB us
  case true => exact (open_4 _ _ _ _ _ _ _ _ _ _ w h0 h1 h2 h3 h4).mono fun _ _ ⟨e, b⟩ => ⟨e.trans (ret_bool (by simp [Hv.any, *])), b⟩
  cases h5 : farB he
  case true => exact (open_5 _ _ _ _ _ _ _ _ _ _ w h0 h1 h2 h3 h4 h5).mono fun _ _ ⟨e, b⟩ => ⟨e.trans (ret_bool (by simp [Hv.any, *])), b⟩
  cases h6 : farB fr
  case true => exact (open_6 _ _ _ _ _ _ _ _ _ _ w h0 h1 h2 h3 h4 h5 h6).mono fun _ _ ⟨e, b⟩ => ⟨e.trans (ret_bool (by simp [Hv.any, *])), b⟩
  cases h7 : farB ou
  case true => exact (open_7 _ _ _ _ _ _ _ _ _ _ w h0 h1 h2 h3 h4 h5 h6 h7).mono fun _ _ ⟨e, b⟩ => ⟨e.trans (ret_bool (by simp [Hv.any, *])), b⟩
  cases h8 : farB ov
  case true => exact (open_8 _ _ _ _ _ _ _ _ _ _ w h0 h1 h2 h3 h4 h5 h6 h7 h8).mono fun _ _ ⟨e, b⟩ => ⟨e.trans (ret_bool (by simp [Hv.any, *])), b⟩
  cases h9 : farB pk
  case true => exact (open_9 _ _ _ _ _ _ _ _ _ _ w h0 h1 h2 h3 h4 h5 h6 h7 h8 h9).mono fun _ _ ⟨e, b⟩ => ⟨e.trans (ret_bool (by simp [Hv.any, *])), b⟩
  exact (open_10 _ _ _ _ _ _ _ _ _ _ w h0 h1 h2 h3 h4 h5 h6 h7 h8 h9).mono fun _ _ ⟨e, b⟩ => ⟨e.trans (ret_bool (by simp [Hv.any, *])), b⟩
end Go.Proofs.YtbjofejloeppkaaDoor
