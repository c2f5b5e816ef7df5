/- The walk of the calendar's law CivilDates. -/
import Derived.Test.YtibjobmhjmdbhaaDoorCivR
namespace Go.Proofs.YtibjobmhjmdbhaaDoor
open Go.RowKit Civ
set_option linter.unusedVariables false
set_option linter.unusedSimpArgs false
theorem rtext_b {y m d : Int} {s : ByteArray} (w : World) (hs : txtB y m d = s) : Calls Tryd.prog 31 #[.agg #[.int .i64 y, .int .i64 m, .int .i64 d]] w fun e w' => e = .returned (.string s) ∧ Below w.heap.size w w' :=
  (rtext_any _ _ _ _).mono fun _ _ ⟨h, hb⟩ => ⟨h.trans (by rw [hs]), hb⟩
theorem rvalid_b {y m d : Int} {b : Bool} (w : World) (hs : vldB y m d = b) : Calls Tryd.prog 29 #[.agg #[.int .i64 y, .int .i64 m, .int .i64 d]] w fun e w' => e = .returned (.bool b) ∧ Below w.heap.size w w' :=
  (rvalid_any _ _ _ _).mono fun _ _ ⟨h, hb⟩ => ⟨h.trans (by rw [hs]), hb⟩
theorem valid_b {y m d : Int} {b : Bool} (w : World) (hE : Env w) (hs : vldB y m d = b) : Calls Tryd.prog 25 #[.agg #[.int .i64 y, .int .i64 m, .int .i64 d]] w fun e w' => e = .returned (.bool b) ∧ Below w.heap.size w w' :=
  (valid_any _ _ _ _ hE.lens).mono fun _ _ ⟨h, hb⟩ => ⟨h.trans (by rw [hs]), hb⟩
theorem month_b {y m d n : Int} (w : World) (hE : Env w) (hs : (if vldB y m d = true then 12 * y + m - 1 else 0) = n) : Calls Tryd.prog 30 #[.agg #[.int .i64 y, .int .i64 m, .int .i64 d]] w fun e w' => e = .returned (.int .i64 n) ∧ Below w.heap.size w w' :=
  (month_any _ _ _ _ hE.lens).mono fun _ _ ⟨h, hb⟩ => ⟨h.trans (by rw [hs]), hb⟩
theorem leap_b {y : Int} {b : Bool} (w : World) (hs : leapB y = b) : Calls Tryd.prog 32 #[.int .i64 y] w fun e w' => e = .returned (.bool b) ∧ Below w.heap.size w w' :=
  (leap_any _ _).mono fun _ _ ⟨h, hb⟩ => ⟨h.trans (by rw [hs]), hb ▸ Below.refl _ _⟩
theorem rleap_b {y : Int} {b : Bool} (w : World) (hs : leapB y = b) : Calls Tryd.prog 33 #[.int .i64 y] w fun e w' => e = .returned (.bool b) ∧ Below w.heap.size w w' :=
  (rleap_any _ _).mono fun _ _ ⟨h, hb⟩ => ⟨h.trans (by rw [hs]), hb ▸ Below.refl _ _⟩
/-- both days, as pairs of one number and one error -/
theorem day_b {y m d n er : Int} (w : World) (hE : Env w) (hn : (if vldB y m d = true then numD y m d else 0) = n) (he : (if vldB y m d = true then (0 : Int) else 1) = er) : Calls Tryd.prog 21 #[.agg #[.int .i64 y, .int .i64 m, .int .i64 d]] w fun e w' => e = .returned (.tuple #[.int .i64 n, .int .i64 er]) ∧ Below w.heap.size w w' := by
  subst hn he
  cases hv : vldB y m d
  · exact day_no y m d w hE.lens (vldB_f.1 hv)
  · exact day_yes y m d w hE.lens (vldB_t.1 hv)
theorem rday_b {y m d n er : Int} (w : World) (hn : (if vldB y m d = true then numD y m d else 0) = n) (he : (if vldB y m d = true then (0 : Int) else 1) = er) : Calls Tryd.prog 28 #[.agg #[.int .i64 y, .int .i64 m, .int .i64 d]] w fun e w' => e = .returned (.tuple #[.int .i64 n, .int .i64 er]) ∧ Below w.heap.size w w' := by
  subst hn he
  exact rday_num y m d w
set_option maxHeartbeats 4000000 in
set_option maxRecDepth 10000000 in
theorem dates_any (y m d : Int) (w : World) (hE : Env w) : Calls Tryd.prog 9 #[.agg #[.int .i64 y, .int .i64 m, .int .i64 d]] w (Fine w) := by
  have HE := Lib.hid hE
  clear hE
  obtain ⟨n, hn⟩ : ∃ n, (if vldB y m d = true then numD y m d else 0) = n := ⟨_, rfl⟩
  obtain ⟨er, her⟩ : ∃ er, (if vldB y m d = true then (0 : Int) else 1) = er := ⟨_, rfl⟩
  obtain ⟨s, hs⟩ : ∃ s, txtB y m d = s := ⟨_, rfl⟩
  obtain ⟨mo, hmo⟩ : ∃ mo, (if vldB y m d = true then 12 * y + m - 1 else 0) = mo := ⟨_, rfl⟩
  obtain ⟨l, hl⟩ : ∃ l, leapB y = l := ⟨_, rfl⟩
  have HN := Lib.hid hn
  have HR := Lib.hid her
  have HS := Lib.hid hs
  have HM := Lib.hid hmo
  have HLp := Lib.hid hl
  clear hn her hs hmo hl
  cases hv : vldB y m d
  all_goals
    have HV := Lib.hid hv
    have hm2 : Hid (vldB y m d = true → 1 ≤ y ∧ y ≤ 9999 ∧ 1 ≤ m ∧ m ≤ 12) := fun h => by
      obtain ⟨h1, h2, h3, h4, _⟩ := vldB_t.1 h
      exact ⟨h1, h2, h3, h4⟩
    clear hv
    go_enter Tryd.func9, Tryd.ntmps9
    go_wp2_with fail
    refine (day_b _ (HE.out.alloc _) HN.out HR.out).mono ?_
    rintro e w1 ⟨rfl, hb⟩
    have B1 : Hid (Below w.heap.size w w1) := below_box hb
    have s1 : w.heap.size < w1.heap.size := by have := hb.size; simp at this; omega
    obtain ⟨a0, a1, a2⟩ := box3 hb
    clear hb
    go_wp2_with fail
    refine (rday_b _ HN.out HR.out).mono ?_
    rintro e w2 ⟨rfl, hb⟩
    have B2 : Hid (Below w.heap.size w w2) := onward hb B1.out
    replace a0 := stays hb a0
    replace a1 := stays hb a1
    replace a2 := stays hb a2
    clear hb B1 s1
    go_wp2_with fail
    refine (rvalid_b _ HV.out).mono ?_
    rintro e w3 ⟨rfl, hb⟩
    have B3 : Hid (Below w.heap.size w w3) := onward hb B2.out
    replace a0 := stays hb a0
    replace a1 := stays hb a1
    replace a2 := stays hb a2
    clear hb B2
  · have h0 : Hid (mo = 0) := by have := HM.out; have h1 := HV.out; rw [h1] at this; exact this.symm.trans (by simp)
    have h0' := h0.out
    clear h0
    subst h0'
    go_wp2_with fail
    have B0 := Below.refl w3.heap.size w3
    have HE3 := Lib.hid (HE.out.below B3.out)
    go_region_held3 (fun W => W.cell? ⟨w.heap.size, 0, none⟩ = some (.int .i64 y) ∧ W.cell? ⟨w.heap.size, 1, none⟩ = some (.int .i64 m) ∧ W.cell? ⟨w.heap.size, 2, none⟩ = some (.int .i64 d) ∧ Below w3.heap.size w3 W)
      (first | exact ⟨a0, a1, a2, World.below_drewN B0 _⟩ | (go_split_ands; exact ⟨stays (by assumption) (by assumption), stays (by assumption) (by assumption), stays (by assumption) (by assumption), onward (by assumption) (by assumption)⟩))
      (first | (go_at_call 25; ((with_reducible refine (valid_b _ (HE3.out.below (by go_split_ands; assumption)) HV.out).mono ?_); rintro e w1 ⟨rfl, hb⟩)) | (go_at_call 29; ((with_reducible refine (rvalid_b _ HV.out).mono ?_); rintro e w1 ⟨rfl, hb⟩)) | (go_at_call 30; ((with_reducible refine (month_b _ (HE3.out.below (by go_split_ands; assumption)) HM.out).mono ?_); rintro e w1 ⟨rfl, hb⟩)) | (go_at_call 24; ((with_reducible refine (text_b _ (HE3.out.below (by go_split_ands; assumption)) HS.out).mono ?_); rintro e w1 ⟨rfl, hb⟩)) | (go_at_call 31; ((with_reducible refine (rtext_b _ HS.out).mono ?_); rintro e w1 ⟨rfl, hb⟩)) | (go_at_call 32; ((with_reducible refine (leap_b _ HLp.out).mono ?_); rintro e w1 ⟨rfl, hb⟩)) | (go_at_call 33; ((with_reducible refine (rleap_b _ HLp.out).mono ?_); rintro e w1 ⟨rfl, hb⟩)) | (go_at_call 26; ((with_reducible refine (goes_any _ (HE3.out.below (by go_split_ands; assumption))).mono ?_); rintro e w1 ⟨rfl, hb⟩)))
    go_split_ands
    have HZ : Hid (Below w.heap.size w w1) := B3.out.trans (Below.mono (by assumption) B3.out.size)
    clear a0 a1 a2 B0
    go_wp2
    go_ret
    exact ⟨rfl, HZ.out⟩
  · have h0 : Hid (mo = 12 * y + m - 1) := by have := HM.out; have h1 := HV.out; rw [h1] at this; exact this.symm.trans (by simp)
    have h0' := h0.out
    clear h0
    subst h0'
    obtain ⟨g1, g2, g3, g4⟩ := hm2.out HV.out
    go_wp2_with fail
    have B0 := Below.refl w3.heap.size w3
    have HE3 := Lib.hid (HE.out.below B3.out)
    go_region_held3 (fun W => W.cell? ⟨w.heap.size, 0, none⟩ = some (.int .i64 y) ∧ W.cell? ⟨w.heap.size, 1, none⟩ = some (.int .i64 m) ∧ W.cell? ⟨w.heap.size, 2, none⟩ = some (.int .i64 d) ∧ Below w3.heap.size w3 W)
      (first | exact ⟨a0, a1, a2, World.below_drewN B0 _⟩ | (go_split_ands; exact ⟨stays (by assumption) (by assumption), stays (by assumption) (by assumption), stays (by assumption) (by assumption), onward (by assumption) (by assumption)⟩))
      (first | (go_at_call 25; ((with_reducible refine (valid_b _ (HE3.out.below (by go_split_ands; assumption)) HV.out).mono ?_); rintro e w1 ⟨rfl, hb⟩)) | (go_at_call 29; ((with_reducible refine (rvalid_b _ HV.out).mono ?_); rintro e w1 ⟨rfl, hb⟩)) | (go_at_call 30; ((with_reducible refine (month_b _ (HE3.out.below (by go_split_ands; assumption)) HM.out).mono ?_); rintro e w1 ⟨rfl, hb⟩)) | (go_at_call 24; ((with_reducible refine (text_b _ (HE3.out.below (by go_split_ands; assumption)) HS.out).mono ?_); rintro e w1 ⟨rfl, hb⟩)) | (go_at_call 31; ((with_reducible refine (rtext_b _ HS.out).mono ?_); rintro e w1 ⟨rfl, hb⟩)) | (go_at_call 32; ((with_reducible refine (leap_b _ HLp.out).mono ?_); rintro e w1 ⟨rfl, hb⟩)) | (go_at_call 33; ((with_reducible refine (rleap_b _ HLp.out).mono ?_); rintro e w1 ⟨rfl, hb⟩)) | (go_at_call 26; ((with_reducible refine (goes_any _ (HE3.out.below (by go_split_ands; assumption))).mono ?_); rintro e w1 ⟨rfl, hb⟩)))
    go_split_ands
    have HZ : Hid (Below w.heap.size w w1) := B3.out.trans (Below.mono (by assumption) B3.out.size)
    clear a0 a1 a2 B0
    go_wp2
    go_ret
    exact ⟨rfl, HZ.out⟩
end Go.Proofs.YtibjobmhjmdbhaaDoor
