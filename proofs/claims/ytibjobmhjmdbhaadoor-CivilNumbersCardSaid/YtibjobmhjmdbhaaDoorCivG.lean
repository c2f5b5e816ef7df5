/- The calendar laws' own example (goes), and the laws that name no reference: their walks. -/
import Derived.Test.YtibjobmhjmdbhaaDoorCivT
namespace Go.Proofs.YtibjobmhjmdbhaaDoor
open Go.RowKit Civ
set_option linter.unusedVariables false
set_option linter.unusedSimpArgs false
theorem box3 {W W1 : World} {a b c : Value} {T : Nat} (hb : Below (W.alloc (.cells #[a, b, c] T)).heap.size (W.alloc (.cells #[a, b, c] T)) W1) : W1.cell? ⟨W.heap.size, 0, none⟩ = some a ∧ W1.cell? ⟨W.heap.size, 1, none⟩ = some b ∧ W1.cell? ⟨W.heap.size, 2, none⟩ = some c :=
  ⟨((bcell hb).1 _ _ (by simp)).trans (by simp), ((bcell hb).1 _ _ (by simp)).trans (by simp), ((bcell hb).1 _ _ (by simp)).trans (by simp)⟩
theorem leapDay : (⟨#[50, 48, 50, 52, 45, 48, 50, 45, 50, 57]⟩ : ByteArray).data.toList = txtL 2024 2 29 := by decide
theorem of_m1 (w : World) (hL : Lens w) : Calls Tryd.prog 22 #[.int .i64 (-1)] w fun e w' => e = .returned (.tuple #[.agg #[.int .i64 1969, .int .i64 12, .int .i64 31], .int .i64 0]) ∧ Below w.heap.size w w' :=
  (of_yes (-1) w hL (by decide) (by decide)).mono fun e w' ⟨y, m, d, hv, hn, he, hb⟩ => by
    obtain ⟨rfl, rfl, rfl⟩ := numD_inj hv (show Vld 1969 12 31 by decide) (hn.trans (by decide))
    exact ⟨he, hb⟩
theorem parse_leap (w : World) (hE : Env w) : Calls Tryd.prog 23 #[.string ⟨#[50, 48, 50, 52, 45, 48, 50, 45, 50, 57]⟩] w fun e w' => e = .returned (.tuple #[.agg #[.int .i64 2024, .int .i64 2, .int .i64 29], .int .i64 0]) ∧ Below w.heap.size w w' :=
  (parse_any _ w hE).mono fun e w' ⟨hb, h⟩ => by
    rcases h with ⟨y, m, d, hv, hn, he⟩ | ⟨h, _⟩
    · obtain ⟨rfl, rfl, rfl⟩ := txtL_inj hv (show Vld 2024 2 29 by decide) (hn.symm.trans leapDay)
      exact ⟨he, hb⟩
    · exact absurd leapDay (h 2024 2 29 (by decide))
set_option maxHeartbeats 1000000 in
theorem goes_any (w : World) (hE : Env w) : Calls Tryd.prog 26 #[] w fun e w' => e = .returned (.bool true) ∧ Below w.heap.size w w' := by
  have d1 : Hid (numD 2000 3 1 = 11017) := by unfold Hid; decide
  have d2 : Hid (min (31 : Int) (lenM 24277) = 28) := by unfold Hid; decide
  have HE := Lib.hid hE
  clear hE
  go_enter Tryd.func26, Tryd.ntmps26
  go_wp2_with fail
  refine (day_yes 2000 3 1 _ HE.out.lens (by decide)).mono ?_
  rintro e w1 ⟨rfl, hb⟩
  rw [d1.out]
  have B1 := Lib.hid hb
  clear hb
  go_wp2_with fail
  refine (of_m1 _ (HE.out.below B1.out).lens).mono ?_
  rintro e w2 ⟨rfl, hb⟩
  have B2 := Lib.hid (onward hb B1.out)
  clear hb B1
  go_wp2_with fail
  refine (clamp_yes 24277 31 _ ((HE.out.below B2.out).alloc _).lens (by decide) (by decide) (by decide)).mono ?_
  rintro e w3 ⟨rfl, hb⟩
  rw [d2.out]
  have B3 := Lib.hid (B2.out.trans ((below_box hb).mono B2.out.size))
  have s2 : w2.heap.size < w3.heap.size := by have := hb.size; simp at this; omega
  obtain ⟨a0, a1, a2⟩ := box3 hb
  clear hb B2
  go_wp2_with fail
  refine (parse_leap _ ((HE.out.below B3.out).alloc _)).mono ?_
  rintro e w4 ⟨rfl, hb⟩
  have B4 := Lib.hid (B3.out.trans ((below_box hb).mono B3.out.size))
  have s3 : w3.heap.size < w4.heap.size := by have := hb.size; simp at this; omega
  have s24 : w2.heap.size < w4.heap.size := by omega
  obtain ⟨b0, b1, b2⟩ := box3 hb
  have hb' := below_box hb
  replace a0 := stays hb' a0
  replace a1 := stays hb' a1
  replace a2 := stays hb' a2
  clear hb hb' B3
  go_wp2_with (go_at_call 32; refine (leap_any _ _).mono ?_; rintro e w' ⟨rfl, rfl⟩; first | rw [show leapB 1900 = false from by decide] | rw [show leapB 2000 = true from by decide])
  go_ret
  exact ⟨rfl, B4.out.alloc B4.out.size _⟩
theorem month_yes {y m d : Int} (w : World) (hL : Lens w) (hv : Vld y m d) : Calls Tryd.prog 30 #[.agg #[.int .i64 y, .int .i64 m, .int .i64 d]] w fun e w' => e = .returned (.int .i64 (12 * y + m - 1)) ∧ Below w.heap.size w w' :=
  (month_any y m d w hL).mono fun e w' ⟨he, hb⟩ => ⟨by rw [he, if_pos (vldB_t.2 hv)], hb⟩
theorem length_b (m : Int) (w : World) (hL : Lens w) : Calls Tryd.prog 27 #[.int .i64 m] w fun e w' => e = .returned (.int .i64 (lenM m)) ∧ Below w.heap.size w w' :=
  (length_any m w hL).mono fun e w' ⟨he, hw⟩ => ⟨he, hw ▸ Below.refl _ _⟩
theorem next_date {y m d y' m' d' : Int} (h : Vld y m d) (h' : Vld y' m' d') (e : numD y' m' d' = numD y m d + 1) :
    (d < lenM (12 * y + m - 1) ∧ y' = y ∧ m' = m ∧ d' = d + 1) ∨ (d = lenM (12 * y + m - 1) ∧ d' = 1 ∧ 12 * y' + m' - 1 = 12 * y + m - 1 + 1) := by
  have h0 := h
  obtain ⟨h1, h2, h3, h4, h5, h6⟩ := h
  by_cases c : d < lenM (12 * y + m - 1)
  · obtain ⟨a, b, c'⟩ := numD_inj h' (show Vld y m (d + 1) from ⟨h1, h2, h3, h4, by omega, by omega⟩) (by rw [e]; unfold numD; omega)
    exact .inl ⟨c, a, b, c'⟩
  · have hs := firstM_succ (12 * y + m - 1) (by omega) (by omega)
    have hb := numD_bd h'
    by_cases hz : 12 * y + m - 1 + 1 = 120000
    · exfalso
      rw [hz, show firstM 120000 = 2932897 from by decide] at hs
      unfold numD at *
      omega
    · obtain ⟨p, q, hq1, hq2, hp1, hp2, hpq⟩ : ∃ p q : Int, 1 ≤ q ∧ q ≤ 12 ∧ 1 ≤ p ∧ p ≤ 9999 ∧ 12 * p + q - 1 = 12 * y + m - 1 + 1 := ⟨(12 * y + m) / 12, (12 * y + m) % 12 + 1, by omega, by omega, by omega, by omega, by omega⟩
      have hl := lenM_bd (12 * p + q - 1) (by omega) (by omega)
      obtain ⟨a, b, c'⟩ := numD_inj h' (show Vld p q 1 from ⟨hp1, hp2, hq1, hq2, by omega, by omega⟩) (by rw [e]; unfold numD; rw [hpq]; omega)
      exact .inr ⟨by omega, c', by omega⟩
theorem last_date {y m d : Int} (h : Vld y m d) (e : numD y m d = 2932896) : y = 9999 ∧ m = 12 ∧ d = 31 := numD_inj h (show Vld 9999 12 31 by decide) (e.trans (by decide))
set_option maxHeartbeats 4000000 in
set_option maxRecDepth 10000000 in
theorem next_any (n : Int) (w : World) (hE : Env w) (hn : -9223372036854775808 ≤ n ∧ n ≤ 9223372036854775807) : Calls Tryd.prog 11 #[.int .i64 n] w fun e w' => e = .returned (.bool true) ∧ Below w.heap.size w w' := by
  have HE := Lib.hid hE
  clear hE
  by_cases h1 : n < -719162 ∨ 2932896 < n
  · go_enter Tryd.func11, Tryd.ntmps11
    go_wp2_with fail
    refine (of_no n _ h1).mono ?_
    rintro e w1 ⟨rfl, hb⟩
    have B1 := Lib.hid hb
    clear hb h1
    go_wp2_with fail
    refine (goes_any _ ((HE.out.below B1.out).alloc _)).mono ?_
    rintro e w2 ⟨rfl, hb⟩
    have B2 : Hid (Below w.heap.size w w2) := B1.out.trans ((below_box hb).mono B1.out.size)
    clear hb
    go_wp2
    go_ret
    exact ⟨rfl, B2.out⟩
  · have h2 : -719162 ≤ n ∧ n ≤ 2932896 := by omega
    clear h1
    obtain ⟨h3, h4⟩ := h2
    go_enter Tryd.func11, Tryd.ntmps11
    go_wp2_with fail
    refine (of_yes n _ HE.out.lens h3 h4).mono ?_
    rintro e w1 ⟨y, m, d, hv, hq, rfl, hb⟩
    have HV := Lib.hid hv
    have HQ := Lib.hid hq
    have B1 := Lib.hid hb
    clear hb hv hq
    go_wp2_with fail
    rename (n == 9223372036854775807) = false => hbig
    clear hbig hn
    by_cases h5 : n = 2932896
    · obtain ⟨rfl, rfl, rfl⟩ := last_date HV.out (HQ.out.trans h5)
      refine (of_no _ _ (by omega)).mono ?_
      rintro e w2 ⟨rfl, hb⟩
      have B2 : Hid (Below w.heap.size w w2) := B1.out.trans ((below_box hb).mono B1.out.size)
      have HE2 := Lib.hid (HE.out.below B2.out)
      have s1 : w1.heap.size < w2.heap.size := by have := hb.size; simp at this; omega
      obtain ⟨a0, a1, a2⟩ := box3 hb
      clear hb h5
      go_wp2_with (go_at_call 26; refine (goes_any _ (HE2.out.alloc _)).mono ?_; rintro e w3 ⟨rfl, hb3⟩; have B3 : Hid (Below w.heap.size w w3) := B2.out.trans ((below_box hb3).mono B2.out.size); clear hb3)
      go_ret
      exact ⟨rfl, Hid.out (by assumption)⟩
    · refine (of_yes _ _ ((HE.out.below B1.out).alloc _).lens (by omega) (by omega)).mono ?_
      rintro e w2 ⟨y', m', d', hv', hq', rfl, hb⟩
      have B2 : Hid (Below w.heap.size w w2) := B1.out.trans ((below_box hb).mono B1.out.size)
      have HE2 := Lib.hid (HE.out.below B2.out)
      have s1 : w1.heap.size < w2.heap.size := by have := hb.size; simp at this; omega
      obtain ⟨a0, a1, a2⟩ := box3 hb
      have hk := Vld.d31 HV.out
      have hk0 : 1 ≤ d := HV.out.2.2.2.2.1
      have HN := next_date HV.out hv' (by rw [hq', HQ.out])
      have HV' := Lib.hid hv'
      clear hb h5 hv' hq'
      rcases HN with ⟨c1, rfl, rfl, rfl⟩ | ⟨c1, rfl, c2⟩
      · clear c1
        go_wp2_with (go_at_call 26; refine (goes_any _ (HE2.out.alloc _)).mono ?_; rintro e w3 ⟨rfl, hb3⟩; have B3 : Hid (Below w.heap.size w w3) := B2.out.trans ((below_box hb3).mono B2.out.size); clear hb3)
        go_ret
        exact ⟨rfl, Hid.out (by assumption)⟩
      · obtain ⟨mo, HM⟩ : ∃ mo, Hid (12 * y + m - 1 = mo) := ⟨_, rfl⟩
        obtain ⟨hmo1, hmo2⟩ : 12 ≤ mo ∧ mo < 120000 := by
          obtain ⟨k1, k2, k3, k4, _⟩ := HV.out
          have := HM.out
          omega
        rw [HM.out] at c1 c2
        have hsum : IntKind.i64.wrap (mo + 1) = mo + 1 := IntWalk.i64_in _ (by omega)
        have C1 := Lib.hid c1
        have C2 := Lib.hid c2
        clear c1 c2
        have hne : ((1 : Int) == d + 1) = false := by simp; omega
        go_wp2_with fail
        have x0 : (w2.alloc (.cells #[.int .i64 y', .int .i64 m', .int .i64 1] 46)).cell? ⟨w1.heap.size, 0, none⟩ = some (.int .i64 y) := by simp [go_sem, s1, a0]
        have x1 : (w2.alloc (.cells #[.int .i64 y', .int .i64 m', .int .i64 1] 46)).cell? ⟨w1.heap.size, 1, none⟩ = some (.int .i64 m) := by simp [go_sem, s1, a1]
        have x2 : (w2.alloc (.cells #[.int .i64 y', .int .i64 m', .int .i64 1] 46)).cell? ⟨w1.heap.size, 2, none⟩ = some (.int .i64 d) := by simp [go_sem, s1, a2]
        have z0 : (w2.alloc (.cells #[.int .i64 y', .int .i64 m', .int .i64 1] 46)).cell? ⟨w2.heap.size, 0, none⟩ = some (.int .i64 y') := by simp
        have z1 : (w2.alloc (.cells #[.int .i64 y', .int .i64 m', .int .i64 1] 46)).cell? ⟨w2.heap.size, 1, none⟩ = some (.int .i64 m') := by simp
        have z2 : (w2.alloc (.cells #[.int .i64 y', .int .i64 m', .int .i64 1] 46)).cell? ⟨w2.heap.size, 2, none⟩ = some (.int .i64 1) := by simp
        have HE3 := Lib.hid (HE2.out.alloc (.cells #[.int .i64 y', .int .i64 m', .int .i64 1] 46))
        have B3 := Lib.hid (B2.out.alloc B2.out.size (.cells #[.int .i64 y', .int .i64 m', .int .i64 1] 46))
        generalize w2.alloc (.cells #[.int .i64 y', .int .i64 m', .int .i64 1] 46) = W0 at *
        clear a0 a1 a2 B1 B2 HE2
        have B0 := Below.refl W0.heap.size W0
        go_region_held3 (fun W => W.cell? ⟨w1.heap.size, 0, none⟩ = some (.int .i64 y) ∧ W.cell? ⟨w1.heap.size, 1, none⟩ = some (.int .i64 m) ∧ W.cell? ⟨w1.heap.size, 2, none⟩ = some (.int .i64 d) ∧ W.cell? ⟨w2.heap.size, 0, none⟩ = some (.int .i64 y') ∧ W.cell? ⟨w2.heap.size, 1, none⟩ = some (.int .i64 m') ∧ W.cell? ⟨w2.heap.size, 2, none⟩ = some (.int .i64 1) ∧ Below W0.heap.size W0 W)
          (first | exact ⟨x0, x1, x2, z0, z1, z2, World.below_drewN B0 _⟩ | (go_split_ands; exact ⟨stays (by assumption) (by assumption), stays (by assumption) (by assumption), stays (by assumption) (by assumption), stays (by assumption) (by assumption), stays (by assumption) (by assumption), stays (by assumption) (by assumption), onward (by assumption) (by assumption)⟩))
          (first | (go_at_call 30; ((with_reducible refine (month_yes (y := y) (m := m) (d := d) _ (HE3.out.below (by go_split_ands; assumption)).lens HV.out).mono ?_); rintro e w3 ⟨rfl, hb⟩; rw [HM.out])) | (go_at_call 30; ((with_reducible refine (month_yes (y := y') (m := m') (d := 1) _ (HE3.out.below (by go_split_ands; assumption)).lens HV'.out).mono ?_); rintro e w3 ⟨rfl, hb⟩; rw [C2.out])) | (go_at_call 27; ((with_reducible refine (length_b _ _ (HE3.out.below (by go_split_ands; assumption)).lens).mono ?_); rintro e w3 ⟨rfl, hb⟩; rw [← C1.out])) | (go_at_call 26; ((with_reducible refine (goes_any _ (HE3.out.below (by go_split_ands; assumption))).mono ?_); rintro e w3 ⟨rfl, hb⟩)))
        go_split_ands
        have HZ : Hid (Below w.heap.size w w3) := B3.out.trans (Below.mono (by assumption) B3.out.size)
        clear x0 x1 x2 z0 z1 z2 hne hsum
        go_wp2
        go_ret
        exact ⟨rfl, HZ.out⟩
end Go.Proofs.YtibjobmhjmdbhaaDoor
