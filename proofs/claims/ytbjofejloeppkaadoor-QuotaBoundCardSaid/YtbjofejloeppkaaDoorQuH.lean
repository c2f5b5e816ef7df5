/- The walk of law 22's QuotaMore. -/
import Derived.Test.YtbjofejloeppkaaDoorQuG
namespace Go.Proofs.YtbjofejloeppkaaDoor
open Go.RowKit Go.Shelf Acct
set_option linter.unusedVariables false
set_option linter.unusedSimpArgs false
def Hv.cells (h : Hv) : Obj := .cells #[.int .i64 h.dl, .int .i64 h.du, .int .i64 h.dh, .int .i64 h.ro, .int .i64 h.us, .int .i64 h.he, .int .i64 h.fr, .int .i64 h.ou, .int .i64 h.ov, .int .i64 h.pk] 23 (0, 0)
/-- what is had lies in block b -/
def HvAt (w : World) (b : Nat) (h : Hv) : Prop := w.heap[b]? = some h.cells
theorem HvAt.below {w w1 : World} {b : Nat} {h : Hv} (hh : HvAt w b h) (hb : Below w.heap.size w w1) : HvAt w1 b h := stays_block hb hh
theorem HvAt.all {w : World} {b : Nat} {dl du dh ro us he fr ou ov pk : Int} (hh : HvAt w b ⟨dl, du, dh, ro, us, he, fr, ou, ov, pk⟩) :
    b < w.heap.size ∧ w.cell? ⟨b, 0, none⟩ = some (.int .i64 dl) ∧ w.cell? ⟨b, 1, none⟩ = some (.int .i64 du) ∧ w.cell? ⟨b, 2, none⟩ = some (.int .i64 dh) ∧ w.cell? ⟨b, 3, none⟩ = some (.int .i64 ro) ∧ w.cell? ⟨b, 4, none⟩ = some (.int .i64 us) ∧ w.cell? ⟨b, 5, none⟩ = some (.int .i64 he) ∧ w.cell? ⟨b, 6, none⟩ = some (.int .i64 fr) ∧ w.cell? ⟨b, 7, none⟩ = some (.int .i64 ou) ∧ w.cell? ⟨b, 8, none⟩ = some (.int .i64 ov) ∧ w.cell? ⟨b, 9, none⟩ = some (.int .i64 pk) := ⟨lt_of_block hh, ten_cells hh⟩
theorem hv_new (w : World) (h : Hv) : HvAt (w.alloc h.cells) w.heap.size h := heap_alloc_new _ _
theorem two_boxes (w : World) (h m : Hv) : HvAt ((w.alloc h.cells).alloc m.cells) w.heap.size h ∧ HvAt ((w.alloc h.cells).alloc m.cells) (w.heap.size + 1) m ∧ Below w.heap.size w ((w.alloc h.cells).alloc m.cells) :=
  ⟨(hv_new w h).below (below_alloc _ _), by have := hv_new (w.alloc h.cells) m; simpa using this, onward (below_alloc _ _) (below_alloc _ _)⟩
def Hv.more (h m : Hv) : Hv := ⟨h.dl, min h.du m.du, h.dh, max h.ro m.ro, h.us, min h.he m.he, min h.fr m.fr, min h.ou m.ou, max h.ov m.ov, max h.pk m.pk⟩
theorem admit_less {h : Hv} {n k : Int} (h1 : admitI h n = 0) (hk : 1 ≤ k) (hkn : k ≤ n) : admitI h k = 0 := by
  unfold admitI at *
  repeat' split at h1
  all_goals first | (exfalso; omega) | skip
  rw [if_neg (by omega), if_neg (by omega), if_neg (by omega)]
theorem admit_more {h m : Hv} {n : Int} (h1 : admitI h n = 0) : admitI (h.more m) n = 0 := by
  unfold admitI at *
  unfold Hv.more
  simp only
  repeat' split at h1
  all_goals first | (exfalso; omega) | skip
  rw [if_neg (by omega), if_neg (by omega), if_neg (by omega)]
theorem more_ok {h m : Hv} (h1 : h.ok) (h2 : m.ok) : (h.more m).ok := by
  unfold Hv.ok nar at *
  unfold Hv.more
  simp only
  omega
theorem admit_bd {h : Hv} {n : Int} (h1 : admitI h n = 0) : 1 ≤ n ∧ n ≤ 1099511627776 := by
  unfold admitI at h1
  repeat' split at h1
  all_goals first | omega | (exfalso; omega)
theorem qgoes_tail (w w1 : World) (hP : Pow w) (hb : Below w.heap.size w w1) : Calls Tryd.prog 8 #[] w1 fun e w' => e = .returned (.bool true) ∧ Below w.heap.size w w' :=
  (qgoes_any w1 (pow_below hP hb)).mono fun _ _ ⟨h, b⟩ => ⟨h, onward b hb⟩
/- printed from here on -/
set_option maxHeartbeats 4000000 in
set_option maxRecDepth 10000000 in
theorem more_open (h m : Hv) (n less : Int) (w : World) (hP : Pow w) (ho : h.any = true) : Calls Tryd.prog 3 #[h.val, .int .i64 n, .int .u32 less, m.val] w fun e w' => e = .returned (.bool true) ∧ Below w.heap.size w w' := by
  have Ho := Lib.hid ho
  have HP := Lib.hid hP
  have G0 := two_boxes w h m
  clear hP ho
  obtain ⟨dl, du, dh, ro, us, he, fr, ou, ov, pk⟩ := h
  obtain ⟨dl', du', dh', ro', us', he', fr', ou', ov', pk'⟩ := m
  unfold Hv.cells at G0
  simp only at G0
  show Calls Tryd.prog 3 #[.agg #[.int .i64 dl, .int .i64 du, .int .i64 dh, .int .i64 ro, .int .i64 us, .int .i64 he, .int .i64 fr, .int .i64 ou, .int .i64 ov, .int .i64 pk], .int .i64 n, .int .u32 less, .agg #[.int .i64 dl', .int .i64 du', .int .i64 dh', .int .i64 ro', .int .i64 us', .int .i64 he', .int .i64 fr', .int .i64 ou', .int .i64 ov', .int .i64 pk']] w _
  go_enter Tryd.func3, Tryd.ntmps3
  go_wp2_with fail
  generalize (w.alloc (.cells #[.int .i64 dl, .int .i64 du, .int .i64 dh, .int .i64 ro, .int .i64 us, .int .i64 he, .int .i64 fr, .int .i64 ou, .int .i64 ov, .int .i64 pk] 23)).alloc (.cells #[.int .i64 dl', .int .i64 du', .int .i64 dh', .int .i64 ro', .int .i64 us', .int .i64 he', .int .i64 fr', .int .i64 ou', .int .i64 ov', .int .i64 pk'] 23) = W at *
  obtain ⟨a0, b0, B0⟩ := G0
  have A0 := Lib.hid a0
  have C0 := Lib.hid b0
  have D0 := Lib.hid B0
  clear a0 b0 B0
  refine (open_any ⟨dl, du, dh, ro, us, he, fr, ou, ov, pk⟩ _).mono ?_
  rintro e w1 ⟨rfl, hb⟩
  rw [Ho.out]
  have D1 := Lib.hid (onward hb D0.out)
  have A1 := Lib.hid (A0.out.below hb)
  have C1 := Lib.hid (C0.out.below hb)
  clear hb D0 A0 C0
  go_wp2_with fail
  refine (qgoes_any _ (pow_below HP.out D1.out)).mono ?_
  rintro e w2 ⟨rfl, hb⟩
  have D2 := Lib.hid (onward hb D1.out)
  clear hb
  go_wp2
  go_ret
  exact ⟨rfl, D2.out⟩
set_option maxHeartbeats 4000000 in
set_option maxRecDepth 10000000 in
theorem more_open2 (h m : Hv) (n less : Int) (w : World) (hP : Pow w) (ho : h.any = false) (hq : m.any = true) : Calls Tryd.prog 3 #[h.val, .int .i64 n, .int .u32 less, m.val] w fun e w' => e = .returned (.bool true) ∧ Below w.heap.size w w' := by
  have Ho := Lib.hid ho
  have Hq := Lib.hid hq
  have HP := Lib.hid hP
  have G0 := two_boxes w h m
  clear hP ho hq
  obtain ⟨dl, du, dh, ro, us, he, fr, ou, ov, pk⟩ := h
  obtain ⟨dl', du', dh', ro', us', he', fr', ou', ov', pk'⟩ := m
  unfold Hv.cells at G0
  simp only at G0
  show Calls Tryd.prog 3 #[.agg #[.int .i64 dl, .int .i64 du, .int .i64 dh, .int .i64 ro, .int .i64 us, .int .i64 he, .int .i64 fr, .int .i64 ou, .int .i64 ov, .int .i64 pk], .int .i64 n, .int .u32 less, .agg #[.int .i64 dl', .int .i64 du', .int .i64 dh', .int .i64 ro', .int .i64 us', .int .i64 he', .int .i64 fr', .int .i64 ou', .int .i64 ov', .int .i64 pk']] w _
  go_enter Tryd.func3, Tryd.ntmps3
  go_wp2_with fail
  generalize (w.alloc (.cells #[.int .i64 dl, .int .i64 du, .int .i64 dh, .int .i64 ro, .int .i64 us, .int .i64 he, .int .i64 fr, .int .i64 ou, .int .i64 ov, .int .i64 pk] 23)).alloc (.cells #[.int .i64 dl', .int .i64 du', .int .i64 dh', .int .i64 ro', .int .i64 us', .int .i64 he', .int .i64 fr', .int .i64 ou', .int .i64 ov', .int .i64 pk'] 23) = W at *
  obtain ⟨a0, b0, B0⟩ := G0
  have A0 := Lib.hid a0
  have C0 := Lib.hid b0
  have D0 := Lib.hid B0
  clear a0 b0 B0
  refine (open_any ⟨dl, du, dh, ro, us, he, fr, ou, ov, pk⟩ _).mono ?_
  rintro e w1 ⟨rfl, hb⟩
  rw [Ho.out]
  have D1 := Lib.hid (onward hb D0.out)
  have A1 := Lib.hid (A0.out.below hb)
  have C1 := Lib.hid (C0.out.below hb)
  clear hb D0 A0 C0
  obtain ⟨c0, c1, c2, c3, c4, c5, c6, c7, c8, c9, c10⟩ := HvAt.all C1.out
  go_wp2_with fail
  clear c1 c2 c3 c4 c5 c6 c7 c8 c9 c10
  refine (open_any ⟨dl', du', dh', ro', us', he', fr', ou', ov', pk'⟩ _).mono ?_
  rintro e w2 ⟨rfl, hb⟩
  rw [Hq.out]
  have D2 := Lib.hid (onward hb D1.out)
  have A2 := Lib.hid (A1.out.below hb)
  have C2 := Lib.hid (C1.out.below hb)
  clear hb D1 A1 C1
  go_wp2_with fail
  refine (qgoes_any _ (pow_below HP.out D2.out)).mono ?_
  rintro e w3 ⟨rfl, hb⟩
  have D3 := Lib.hid (onward hb D2.out)
  clear hb
  go_wp2
  go_ret
  exact ⟨rfl, D3.out⟩
set_option maxHeartbeats 4000000 in
set_option maxRecDepth 10000000 in
theorem more_no (h m : Hv) (n less : Int) (w : World) (hP : Pow w) (hn : inInt n) (ho : h.any = false) (hq : m.any = false) (z : Int) (hz : admitI h n = z) (hy : (z != 0) = true) : Calls Tryd.prog 3 #[h.val, .int .i64 n, .int .u32 less, m.val] w fun e w' => e = .returned (.bool true) ∧ Below w.heap.size w w' := by
  have Hn := Lib.hid hn
  have Ho := Lib.hid ho
  have Hq := Lib.hid hq
  have Hz := Lib.hid hz
  have HP := Lib.hid hP
  have G0 := two_boxes w h m
  clear hP ho hq hz
  obtain ⟨dl, du, dh, ro, us, he, fr, ou, ov, pk⟩ := h
  obtain ⟨dl', du', dh', ro', us', he', fr', ou', ov', pk'⟩ := m
  unfold Hv.cells at G0
  simp only at G0
  show Calls Tryd.prog 3 #[.agg #[.int .i64 dl, .int .i64 du, .int .i64 dh, .int .i64 ro, .int .i64 us, .int .i64 he, .int .i64 fr, .int .i64 ou, .int .i64 ov, .int .i64 pk], .int .i64 n, .int .u32 less, .agg #[.int .i64 dl', .int .i64 du', .int .i64 dh', .int .i64 ro', .int .i64 us', .int .i64 he', .int .i64 fr', .int .i64 ou', .int .i64 ov', .int .i64 pk']] w _
  have OK := Lib.hid (Hv.any_no Ho.out)
  go_enter Tryd.func3, Tryd.ntmps3
  go_wp2_with fail
  generalize (w.alloc (.cells #[.int .i64 dl, .int .i64 du, .int .i64 dh, .int .i64 ro, .int .i64 us, .int .i64 he, .int .i64 fr, .int .i64 ou, .int .i64 ov, .int .i64 pk] 23)).alloc (.cells #[.int .i64 dl', .int .i64 du', .int .i64 dh', .int .i64 ro', .int .i64 us', .int .i64 he', .int .i64 fr', .int .i64 ou', .int .i64 ov', .int .i64 pk'] 23) = W at *
  obtain ⟨a0, b0, B0⟩ := G0
  have A0 := Lib.hid a0
  have C0 := Lib.hid b0
  have D0 := Lib.hid B0
  clear a0 b0 B0
  refine (open_any ⟨dl, du, dh, ro, us, he, fr, ou, ov, pk⟩ _).mono ?_
  rintro e w1 ⟨rfl, hb⟩
  rw [Ho.out]
  have D1 := Lib.hid (onward hb D0.out)
  have A1 := Lib.hid (A0.out.below hb)
  have C1 := Lib.hid (C0.out.below hb)
  clear hb D0 A0 C0
  obtain ⟨c0, c1, c2, c3, c4, c5, c6, c7, c8, c9, c10⟩ := HvAt.all C1.out
  go_wp2_with fail
  clear c1 c2 c3 c4 c5 c6 c7 c8 c9 c10
  refine (open_any ⟨dl', du', dh', ro', us', he', fr', ou', ov', pk'⟩ _).mono ?_
  rintro e w2 ⟨rfl, hb⟩
  rw [Hq.out]
  have D2 := Lib.hid (onward hb D1.out)
  have A2 := Lib.hid (A1.out.below hb)
  have C2 := Lib.hid (C1.out.below hb)
  clear hb D1 A1 C1
  obtain ⟨c0, c1, c2, c3, c4, c5, c6, c7, c8, c9, c10⟩ := HvAt.all A2.out
  go_wp2_with fail
  clear c1 c2 c3 c4 c5 c6 c7 c8 c9 c10
  refine (admit_any ⟨dl, du, dh, ro, us, he, fr, ou, ov, pk⟩ n _ OK.out Hn.out).mono ?_
  rintro e w3 ⟨rfl, hb⟩
  rw [Hz.out]
  have D3 := Lib.hid (onward hb D2.out)
  have A3 := Lib.hid (A2.out.below hb)
  have C3 := Lib.hid (C2.out.below hb)
  clear hb D2 A2 C2
  go_wp2_with fail
  refine (qgoes_any _ (pow_below HP.out D3.out)).mono ?_
  rintro e w4 ⟨rfl, hb⟩
  have D4 := Lib.hid (onward hb D3.out)
  clear hb
  go_wp2
  go_ret
  exact ⟨rfl, D4.out⟩
set_option maxHeartbeats 4000000 in
set_option maxRecDepth 10000000 in
theorem more_yes (h m : Hv) (n less : Int) (w : World) (hP : Pow w) (hn : inInt n) (hl : 0 ≤ less ∧ less < 4294967296) (ho : h.any = false) (hq : m.any = false) (hz : admitI h n = 0) (hk : n - less < 1) : Calls Tryd.prog 3 #[h.val, .int .i64 n, .int .u32 less, m.val] w fun e w' => e = .returned (.bool true) ∧ Below w.heap.size w w' := by
  have Hn := Lib.hid hn
  have Ho := Lib.hid ho
  have Hq := Lib.hid hq
  have Hz := Lib.hid hz
  have HP := Lib.hid hP
  have G0 := two_boxes w h m
  clear hP ho hq hz
  obtain ⟨dl, du, dh, ro, us, he, fr, ou, ov, pk⟩ := h
  obtain ⟨dl', du', dh', ro', us', he', fr', ou', ov', pk'⟩ := m
  unfold Hv.cells at G0
  simp only at G0
  show Calls Tryd.prog 3 #[.agg #[.int .i64 dl, .int .i64 du, .int .i64 dh, .int .i64 ro, .int .i64 us, .int .i64 he, .int .i64 fr, .int .i64 ou, .int .i64 ov, .int .i64 pk], .int .i64 n, .int .u32 less, .agg #[.int .i64 dl', .int .i64 du', .int .i64 dh', .int .i64 ro', .int .i64 us', .int .i64 he', .int .i64 fr', .int .i64 ou', .int .i64 ov', .int .i64 pk']] w _
  have OK := Lib.hid (Hv.any_no Ho.out)
  have OX := Lib.hid (more_ok OK.out (Hv.any_no Hq.out))
  have HX := Lib.hid (admit_more (m := ⟨dl', du', dh', ro', us', he', fr', ou', ov', pk'⟩) Hz.out)
  obtain ⟨hn1, hn2⟩ := admit_bd Hz.out
  clear hn
  unfold Hv.more at OX HX
  simp only at OX HX
  go_enter Tryd.func3, Tryd.ntmps3
  go_wp2_with fail
  generalize (w.alloc (.cells #[.int .i64 dl, .int .i64 du, .int .i64 dh, .int .i64 ro, .int .i64 us, .int .i64 he, .int .i64 fr, .int .i64 ou, .int .i64 ov, .int .i64 pk] 23)).alloc (.cells #[.int .i64 dl', .int .i64 du', .int .i64 dh', .int .i64 ro', .int .i64 us', .int .i64 he', .int .i64 fr', .int .i64 ou', .int .i64 ov', .int .i64 pk'] 23) = W at *
  obtain ⟨a0, b0, B0⟩ := G0
  have A0 := Lib.hid a0
  have C0 := Lib.hid b0
  have D0 := Lib.hid B0
  clear a0 b0 B0
  refine (open_any ⟨dl, du, dh, ro, us, he, fr, ou, ov, pk⟩ _).mono ?_
  rintro e w1 ⟨rfl, hb⟩
  rw [Ho.out]
  have D1 := Lib.hid (onward hb D0.out)
  have A1 := Lib.hid (A0.out.below hb)
  have C1 := Lib.hid (C0.out.below hb)
  clear hb D0 A0 C0
  obtain ⟨c0, c1, c2, c3, c4, c5, c6, c7, c8, c9, c10⟩ := HvAt.all C1.out
  go_wp2_with fail
  clear c1 c2 c3 c4 c5 c6 c7 c8 c9 c10
  refine (open_any ⟨dl', du', dh', ro', us', he', fr', ou', ov', pk'⟩ _).mono ?_
  rintro e w2 ⟨rfl, hb⟩
  rw [Hq.out]
  have D2 := Lib.hid (onward hb D1.out)
  have A2 := Lib.hid (A1.out.below hb)
  have C2 := Lib.hid (C1.out.below hb)
  clear hb D1 A1 C1
  obtain ⟨c0, c1, c2, c3, c4, c5, c6, c7, c8, c9, c10⟩ := HvAt.all A2.out
  go_wp2_with fail
  clear c1 c2 c3 c4 c5 c6 c7 c8 c9 c10
  refine (admit_any ⟨dl, du, dh, ro, us, he, fr, ou, ov, pk⟩ n _ OK.out Hn.out).mono ?_
  rintro e w3 ⟨rfl, hb⟩
  rw [Hz.out]
  have D3 := Lib.hid (onward hb D2.out)
  have A3 := Lib.hid (A2.out.below hb)
  have C3 := Lib.hid (C2.out.below hb)
  clear hb D2 A2 C2
  obtain ⟨c0, c1, c2, c3, c4, c5, c6, c7, c8, c9, c10⟩ := HvAt.all A3.out
  obtain ⟨d0, d1, d2, d3, d4, d5, d6, d7, d8, d9, d10⟩ := HvAt.all C3.out
  go_wp2_with fail
  clear c1 c2 c3 c4 c5 c6 c7 c8 c9 c10
  clear d1 d2 d3 d4 d5 d6 d7 d8 d9 d10
  have E3 := Lib.hid (onward (below_alloc w3 (.cells #[.int .i64 dl, .int .i64 (min du du'), .int .i64 dh, .int .i64 (max ro ro'), .int .i64 us, .int .i64 (min he he'), .int .i64 (min fr fr'), .int .i64 (min ou ou'), .int .i64 (max ov ov'), .int .i64 (max pk pk')] 23)) D3.out)
  clear D3 A3 C3
  generalize w3.alloc (.cells #[.int .i64 dl, .int .i64 (min du du'), .int .i64 dh, .int .i64 (max ro ro'), .int .i64 us, .int .i64 (min he he'), .int .i64 (min fr fr'), .int .i64 (min ou ou'), .int .i64 (max ov ov'), .int .i64 (max pk pk')] 23) = W2 at *
  refine (admit_any ⟨dl, (min du du'), dh, (max ro ro'), us, (min he he'), (min fr fr'), (min ou ou'), (max ov ov'), (max pk pk')⟩ n _ OX.out (by unfold inInt; omega)).mono ?_
  rintro e w4 ⟨rfl, hb⟩
  rw [HX.out]
  have D4 := Lib.hid (onward hb E3.out)
  clear hb E3
  go_wp2_with fail
  refine (qgoes_any _ (pow_below HP.out D4.out)).mono ?_
  rintro e w5 ⟨rfl, hb⟩
  have D5 := Lib.hid (onward hb D4.out)
  clear hb
  go_wp2
  go_ret
  exact ⟨rfl, D5.out⟩
set_option maxHeartbeats 4000000 in
set_option maxRecDepth 10000000 in
theorem more_yes2 (h m : Hv) (n less : Int) (w : World) (hP : Pow w) (hn : inInt n) (hl : 0 ≤ less ∧ less < 4294967296) (ho : h.any = false) (hq : m.any = false) (hz : admitI h n = 0) (hk : 1 ≤ n - less) (hj : admitI h (n - less) = 0) : Calls Tryd.prog 3 #[h.val, .int .i64 n, .int .u32 less, m.val] w fun e w' => e = .returned (.bool true) ∧ Below w.heap.size w w' := by
  have Hn := Lib.hid hn
  have Ho := Lib.hid ho
  have Hq := Lib.hid hq
  have Hz := Lib.hid hz
  have Hj := Lib.hid hj
  have HP := Lib.hid hP
  have G0 := two_boxes w h m
  clear hP ho hq hz hj
  obtain ⟨dl, du, dh, ro, us, he, fr, ou, ov, pk⟩ := h
  obtain ⟨dl', du', dh', ro', us', he', fr', ou', ov', pk'⟩ := m
  unfold Hv.cells at G0
  simp only at G0
  show Calls Tryd.prog 3 #[.agg #[.int .i64 dl, .int .i64 du, .int .i64 dh, .int .i64 ro, .int .i64 us, .int .i64 he, .int .i64 fr, .int .i64 ou, .int .i64 ov, .int .i64 pk], .int .i64 n, .int .u32 less, .agg #[.int .i64 dl', .int .i64 du', .int .i64 dh', .int .i64 ro', .int .i64 us', .int .i64 he', .int .i64 fr', .int .i64 ou', .int .i64 ov', .int .i64 pk']] w _
  have OK := Lib.hid (Hv.any_no Ho.out)
  have OX := Lib.hid (more_ok OK.out (Hv.any_no Hq.out))
  have HX := Lib.hid (admit_more (m := ⟨dl', du', dh', ro', us', he', fr', ou', ov', pk'⟩) Hz.out)
  obtain ⟨hn1, hn2⟩ := admit_bd Hz.out
  clear hn
  unfold Hv.more at OX HX
  simp only at OX HX
  go_enter Tryd.func3, Tryd.ntmps3
  go_wp2_with fail
  generalize (w.alloc (.cells #[.int .i64 dl, .int .i64 du, .int .i64 dh, .int .i64 ro, .int .i64 us, .int .i64 he, .int .i64 fr, .int .i64 ou, .int .i64 ov, .int .i64 pk] 23)).alloc (.cells #[.int .i64 dl', .int .i64 du', .int .i64 dh', .int .i64 ro', .int .i64 us', .int .i64 he', .int .i64 fr', .int .i64 ou', .int .i64 ov', .int .i64 pk'] 23) = W at *
  obtain ⟨a0, b0, B0⟩ := G0
  have A0 := Lib.hid a0
  have C0 := Lib.hid b0
  have D0 := Lib.hid B0
  clear a0 b0 B0
  refine (open_any ⟨dl, du, dh, ro, us, he, fr, ou, ov, pk⟩ _).mono ?_
  rintro e w1 ⟨rfl, hb⟩
  rw [Ho.out]
  have D1 := Lib.hid (onward hb D0.out)
  have A1 := Lib.hid (A0.out.below hb)
  have C1 := Lib.hid (C0.out.below hb)
  clear hb D0 A0 C0
  obtain ⟨c0, c1, c2, c3, c4, c5, c6, c7, c8, c9, c10⟩ := HvAt.all C1.out
  go_wp2_with fail
  clear c1 c2 c3 c4 c5 c6 c7 c8 c9 c10
  refine (open_any ⟨dl', du', dh', ro', us', he', fr', ou', ov', pk'⟩ _).mono ?_
  rintro e w2 ⟨rfl, hb⟩
  rw [Hq.out]
  have D2 := Lib.hid (onward hb D1.out)
  have A2 := Lib.hid (A1.out.below hb)
  have C2 := Lib.hid (C1.out.below hb)
  clear hb D1 A1 C1
  obtain ⟨c0, c1, c2, c3, c4, c5, c6, c7, c8, c9, c10⟩ := HvAt.all A2.out
  go_wp2_with fail
  clear c1 c2 c3 c4 c5 c6 c7 c8 c9 c10
  refine (admit_any ⟨dl, du, dh, ro, us, he, fr, ou, ov, pk⟩ n _ OK.out Hn.out).mono ?_
  rintro e w3 ⟨rfl, hb⟩
  rw [Hz.out]
  have D3 := Lib.hid (onward hb D2.out)
  have A3 := Lib.hid (A2.out.below hb)
  have C3 := Lib.hid (C2.out.below hb)
  clear hb D2 A2 C2
  obtain ⟨c0, c1, c2, c3, c4, c5, c6, c7, c8, c9, c10⟩ := HvAt.all A3.out
  go_wp2_with fail
  clear c1 c2 c3 c4 c5 c6 c7 c8 c9 c10
  refine (admit_any ⟨dl, du, dh, ro, us, he, fr, ou, ov, pk⟩ (n - less) _ OK.out ⟨by omega, by omega⟩).mono ?_
  rintro e w4 ⟨rfl, hb⟩
  rw [Hj.out]
  have D4 := Lib.hid (onward hb D3.out)
  have A4 := Lib.hid (A3.out.below hb)
  have C4 := Lib.hid (C3.out.below hb)
  clear hb D3 A3 C3
  obtain ⟨c0, c1, c2, c3, c4, c5, c6, c7, c8, c9, c10⟩ := HvAt.all A4.out
  obtain ⟨d0, d1, d2, d3, d4, d5, d6, d7, d8, d9, d10⟩ := HvAt.all C4.out
  go_wp2_with fail
  clear c1 c2 c3 c4 c5 c6 c7 c8 c9 c10
  clear d1 d2 d3 d4 d5 d6 d7 d8 d9 d10
  have E4 := Lib.hid (onward (below_alloc w4 (.cells #[.int .i64 dl, .int .i64 (min du du'), .int .i64 dh, .int .i64 (max ro ro'), .int .i64 us, .int .i64 (min he he'), .int .i64 (min fr fr'), .int .i64 (min ou ou'), .int .i64 (max ov ov'), .int .i64 (max pk pk')] 23)) D4.out)
  clear D4 A4 C4
  generalize w4.alloc (.cells #[.int .i64 dl, .int .i64 (min du du'), .int .i64 dh, .int .i64 (max ro ro'), .int .i64 us, .int .i64 (min he he'), .int .i64 (min fr fr'), .int .i64 (min ou ou'), .int .i64 (max ov ov'), .int .i64 (max pk pk')] 23) = W2 at *
  refine (admit_any ⟨dl, (min du du'), dh, (max ro ro'), us, (min he he'), (min fr fr'), (min ou ou'), (max ov ov'), (max pk pk')⟩ n _ OX.out (by unfold inInt; omega)).mono ?_
  rintro e w5 ⟨rfl, hb⟩
  rw [HX.out]
  have D5 := Lib.hid (onward hb E4.out)
  clear hb E4
  go_wp2_with fail
  refine (qgoes_any _ (pow_below HP.out D5.out)).mono ?_
  rintro e w6 ⟨rfl, hb⟩
  have D6 := Lib.hid (onward hb D5.out)
  clear hb
  go_wp2
  go_ret
  exact ⟨rfl, D6.out⟩
theorem more_any (h m : Hv) (n less : Int) (w : World) (hP : Pow w) (hn : inInt n) (hl : 0 ≤ less ∧ less < 4294967296) : Calls Tryd.prog 3 #[h.val, .int .i64 n, .int .u32 less, m.val] w fun e w' => e = .returned (.bool true) ∧ Below w.heap.size w w' := by
  cases ho : h.any
  case true => exact more_open h m n less w hP ho
  cases hq : m.any
  case true => exact more_open2 h m n less w hP ho hq
  by_cases hz : admitI h n = 0
  · have hb := admit_bd hz
    by_cases hk : n - less < 1
    · exact more_yes h m n less w hP hn hl ho hq hz hk
    · exact more_yes2 h m n less w hP hn hl ho hq hz (by omega) (admit_less hz (by omega) (by omega))
  · exact more_no h m n less w hP hn ho hq _ rfl (by rw [bne_iff_ne]; exact hz)
end Go.Proofs.YtbjofejloeppkaaDoor
