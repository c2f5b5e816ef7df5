/- The walks of the calendar's laws CivilBack and CivilKnown. -/
import Derived.Test.YtibjobmhjmdbhaaDoorCivH
namespace Go.Proofs.YtibjobmhjmdbhaaDoor
open Go.RowKit Civ
set_option linter.unusedVariables false
set_option linter.unusedSimpArgs false
theorem of_num {y m d : Int} (w : World) (hE : Env w) (hv : Vld y m d) : Calls Tryd.prog 22 #[.int .i64 (numD y m d)] w fun e w' => e = .returned (.tuple #[.agg #[.int .i64 y, .int .i64 m, .int .i64 d], .int .i64 0]) ∧ Below w.heap.size w w' := by
  have hb := numD_bd hv
  refine (of_yes _ w hE.lens hb.1 hb.2).mono ?_
  rintro e w' ⟨y', m', d', hv', hn, he, hz⟩
  obtain ⟨rfl, rfl, rfl⟩ := numD_inj hv' hv hn
  exact ⟨he, hz⟩
theorem parse_txt {y m d : Int} (w : World) (hE : Env w) (hv : Vld y m d) : Calls Tryd.prog 23 #[.string (txtB y m d)] w fun e w' => e = .returned (.tuple #[.agg #[.int .i64 y, .int .i64 m, .int .i64 d], .int .i64 0]) ∧ Below w.heap.size w w' := by
  refine (parse_any _ w hE).mono ?_
  rintro e w' ⟨hb, h⟩
  have ht : (txtB y m d).data.toList = txtL y m d := by rw [txtB, if_pos (vldB_t.2 hv)]
  rcases h with ⟨y', m', d', hv', hn, he⟩ | ⟨hn, _⟩
  · obtain ⟨rfl, rfl, rfl⟩ := txtL_inj hv' hv (hn.symm.trans ht)
    exact ⟨he, hb⟩
  · exact absurd ht (hn y m d hv)
/-- the second half of CivilBack: from 'x, h := civil.Of(day)' on: the two first statements have left a world below which nothing has turned -/
def Fine (w : World) (e : Ending) (w' : World) : Prop := e = .returned (.bool true) ∧ Below w.heap.size w w'
set_option maxHeartbeats 4000000 in
set_option maxRecDepth 100000 in
theorem back_any (y m d n : Int) (w : World) (hE : Env w) : Calls Tryd.prog 6 #[.agg #[.int .i64 y, .int .i64 m, .int .i64 d], .int .i64 n] w (Fine w) := by
  have HE := Lib.hid hE
  clear hE
  by_cases hv : Vld y m d
  · have HV := Lib.hid hv
    have HVB := Lib.hid (vldB_t.2 hv)
    go_enter Tryd.func6, Tryd.ntmps6
    clear hv
    go_wp2_with fail
    refine (day_yes _ _ _ _ (HE.out.alloc _).lens HV.out).mono ?_
    rintro e w1 ⟨rfl, hb⟩
    have B1 : Hid (Below w.heap.size w w1) := below_box hb
    have s1 : w.heap.size < w1.heap.size := by have := hb.size; simp at this; omega
    obtain ⟨a0, a1, a2⟩ := box3 hb
    clear hb
    go_wp2_with fail
    refine (of_num _ (HE.out.below B1.out) HV.out).mono ?_
    rintro e w2 ⟨rfl, hb⟩
    have B2 : Hid (Below w.heap.size w w2) := onward hb B1.out
    have s2 : w.heap.size < w2.heap.size := by have := hb.size; omega
    replace a0 := stays hb a0
    replace a1 := stays hb a1
    replace a2 := stays hb a2
    clear hb B1 s1
    go_wp2_with fail
    refine (text_any _ _ _ _ ((HE.out.below B2.out).alloc _)).mono ?_
    rintro e w3 ⟨rfl, hb⟩
    have B3 : Hid (Below w.heap.size w w3) := B2.out.trans ((below_box hb).mono B2.out.size)
    have s3 : w.heap.size < w3.heap.size ∧ w2.heap.size < w3.heap.size := by have := hb.size; simp at this; omega
    obtain ⟨s3, s3'⟩ := s3
    obtain ⟨b0, b1, b2⟩ := box3 hb
    replace a0 := stays (below_box hb) a0
    replace a1 := stays (below_box hb) a1
    replace a2 := stays (below_box hb) a2
    clear hb B2
    go_wp2_with fail
    refine (parse_txt _ (HE.out.below B3.out) HV.out).mono ?_
    rintro e w4 ⟨rfl, hb⟩
    have B4 : Hid (Below w.heap.size w w4) := onward hb B3.out
    have s4 : w.heap.size < w4.heap.size ∧ w2.heap.size < w4.heap.size := by have := hb.size; omega
    obtain ⟨s4, s4'⟩ := s4
    replace a0 := stays hb a0
    replace a1 := stays hb a1
    replace a2 := stays hb a2
    replace b0 := stays hb b0
    replace b1 := stays hb b1
    replace b2 := stays hb b2
    clear hb B3 s3 s3'
    go_wp2_with fail
    refine (valid_yes _ ((HE.out.below B4.out).alloc _) HVB.out).mono ?_
    rintro e w5 ⟨rfl, hb⟩
    have B5 : Hid (Below w.heap.size w w5) := B4.out.trans ((below_box hb).mono B4.out.size)
    clear hb B4 a0 a1 a2 b0 b1 b2 s4 s4' s2
    go_wp2_with fail
    by_cases h1 : n < -719162 ∨ 2932896 < n
    · refine (of_no n _ h1).mono ?_
      rintro e w6 ⟨rfl, hb⟩
      have B6 : Hid (Below w.heap.size w w6) := onward hb B5.out
      clear hb h1
      go_wp2_with fail
      refine (goes_any _ ((HE.out.below B6.out).alloc _)).mono ?_
      rintro e w7 ⟨rfl, hb⟩
      have B7 : Hid (Below w.heap.size w w7) := B6.out.trans ((below_box hb).mono B6.out.size)
      clear hb
      go_wp2
      go_ret
      exact ⟨rfl, B7.out⟩
    · refine (of_yes n _ (HE.out.below B5.out).lens (by omega) (by omega)).mono ?_
      rintro e w6 ⟨y', m', d', hv', hq', rfl, hb⟩
      have HV' := Lib.hid hv'
      have HQ' := Lib.hid hq'
      have B6 : Hid (Below w.heap.size w w6) := onward hb B5.out
      clear hb h1 hv' hq'
      go_wp2_with fail
      refine (day_yes _ _ _ _ ((HE.out.below B6.out).alloc _).lens HV'.out).mono ?_
      rintro e w7 ⟨rfl, hb⟩
      rw [HQ'.out]
      have B7 : Hid (Below w.heap.size w w7) := B6.out.trans ((below_box hb).mono B6.out.size)
      clear hb
      go_wp2_with fail
      refine (goes_any _ (HE.out.below B7.out)).mono ?_
      rintro e w8 ⟨rfl, hb⟩
      have B8 : Hid (Below w.heap.size w w8) := onward hb B7.out
      clear hb
      go_wp2
      go_ret
      exact ⟨rfl, B8.out⟩
  · have HVB := Lib.hid (vldB_f.2 hv)
    have HV := Lib.hid hv
    go_enter Tryd.func6, Tryd.ntmps6
    clear hv
    go_wp2_with fail
    refine (day_no _ _ _ _ (HE.out.alloc _).lens HV.out).mono ?_
    rintro e w1 ⟨rfl, hb⟩
    have B1 : Hid (Below w.heap.size w w1) := below_box hb
    have s1 : w.heap.size < w1.heap.size := by have := hb.size; simp at this; omega
    obtain ⟨a0, a1, a2⟩ := box3 hb
    clear hb
    go_wp2_with fail
    refine (valid_no _ (HE.out.below B1.out) HVB.out).mono ?_
    rintro e w2 ⟨rfl, hb⟩
    have B2 : Hid (Below w.heap.size w w2) := onward hb B1.out
    replace a0 := stays hb a0
    replace a1 := stays hb a1
    replace a2 := stays hb a2
    clear hb B1 s1
    go_wp2_with fail
    refine (text_no _ _ _ _ (HE.out.below B2.out) HVB.out).mono ?_
    rintro e w5 ⟨rfl, hb⟩
    have B5 : Hid (Below w.heap.size w w5) := onward hb B2.out
    clear hb B2 a0 a1 a2
    go_wp2_with fail
    by_cases h1 : n < -719162 ∨ 2932896 < n
    · refine (of_no n _ h1).mono ?_
      rintro e w6 ⟨rfl, hb⟩
      have B6 : Hid (Below w.heap.size w w6) := onward hb B5.out
      clear hb h1
      go_wp2_with fail
      refine (goes_any _ ((HE.out.below B6.out).alloc _)).mono ?_
      rintro e w7 ⟨rfl, hb⟩
      have B7 : Hid (Below w.heap.size w w7) := B6.out.trans ((below_box hb).mono B6.out.size)
      clear hb
      go_wp2
      go_ret
      exact ⟨rfl, B7.out⟩
    · refine (of_yes n _ (HE.out.below B5.out).lens (by omega) (by omega)).mono ?_
      rintro e w6 ⟨y', m', d', hv', hq', rfl, hb⟩
      have HV' := Lib.hid hv'
      have HQ' := Lib.hid hq'
      have B6 : Hid (Below w.heap.size w w6) := onward hb B5.out
      clear hb h1 hv' hq'
      go_wp2_with fail
      refine (day_yes _ _ _ _ ((HE.out.below B6.out).alloc _).lens HV'.out).mono ?_
      rintro e w7 ⟨rfl, hb⟩
      rw [HQ'.out]
      have B7 : Hid (Below w.heap.size w w7) := B6.out.trans ((below_box hb).mono B6.out.size)
      clear hb
      go_wp2_with fail
      refine (goes_any _ (HE.out.below B7.out)).mono ?_
      rintro e w8 ⟨rfl, hb⟩
      have B8 : Hid (Below w.heap.size w w8) := onward hb B7.out
      clear hb
      go_wp2
      go_ret
      exact ⟨rfl, B8.out⟩
end Go.Proofs.YtibjobmhjmdbhaaDoor
