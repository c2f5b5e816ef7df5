/- The walks of the calendar's laws CivilMonths and CivilTexts. -/
import Derived.Test.YtibjobmhjmdbhaaDoorCivG
namespace Go.Proofs.YtibjobmhjmdbhaaDoor
open Go.RowKit Civ
set_option linter.unusedVariables false
set_option linter.unusedSimpArgs false
theorem leapI_400 (y : Int) : leapI (y + 400) = leapI y := by
  unfold leapI
  by_cases c : y % 4 = 0 ∧ (y % 100 ≠ 0 ∨ y % 400 = 0)
  · rw [if_pos c, if_pos (by omega)]
  · rw [if_neg c, if_neg (by omega)]
theorem firstM_400 (m : Int) (h : 12 ≤ m) (h' : m + 4800 < 120000) : firstM (m + 4800) = firstM m + 146097 := by
  obtain ⟨y, k, hk, rfl⟩ : ∃ (y : Int) (k : Nat), k < 12 ∧ m = 12 * y + k := ⟨m / 12, (m % 12).toNat, by omega, by omega⟩
  have hc : ∀ j : Nat, j ≤ 12 → cum (y + 400) j = cum y j := by
    intro j
    induction j with
    | zero => intro _; rfl
    | succ j ih =>
      intro hj
      simp only [cum]
      rw [ih (by omega), lenM_at (y + 400) j (by omega) (by omega) (by omega), lenM_at y j (by omega) (by omega) (by omega), leapI_400]
  rw [show 12 * y + (k : Int) + 4800 = 12 * (y + 400) + k from by omega, firstM_at _ k hk, firstM_at _ k hk, hc k (by omega)]
  unfold yearsF
  omega
theorem first_gen (m : Int) (w : World) (hL : Lens w) : Calls Tryd.prog 35 #[.int .i64 m] w fun e w' => ∃ v er : Int, e = .returned (.tuple #[.int .i64 v, .int .i64 er]) ∧ w = w' := by
  by_cases h : m < 12 ∨ 120000 ≤ m
  · exact (firstno m w hL h).mono fun e w' ⟨h1, h2⟩ => ⟨_, _, h1, h2⟩
  · exact (firstyes m w hL (by omega) (by omega)).mono fun e w' ⟨h1, h2⟩ => ⟨_, _, h1, h2⟩
set_option maxHeartbeats 1000000 in
set_option maxRecDepth 100000 in
theorem months_any (n : Int) (w : World) (hE : Env w) (hn : -9223372036854775808 ≤ n ∧ n ≤ 9223372036854775807) : Calls Tryd.prog 12 #[.int .i64 n] w fun e w' => e = .returned (.bool true) ∧ Below w.heap.size w w' := by
  have HE := Lib.hid hE
  clear hE
  by_cases h1 : n < 12 ∨ 120000 ≤ n
  · have h0 := Lib.hid (lenM_no h1)
    cases hmax : (n == 9223372036854775807)
    all_goals
      go_enter Tryd.func12, Tryd.ntmps12
      go_wp2_with fail
      refine (firstno n _ HE.out.lens h1).mono ?_
      rintro e w1 ⟨rfl, rfl⟩
      clear h1 hn
      go_wp2_with fail
      refine (first_gen _ _ HE.out.lens).mono ?_
      rintro e w1 ⟨v, er, rfl, rfl⟩
      go_wp2_with fail
      refine (length_any _ _ HE.out.lens).mono ?_
      rintro e w' ⟨rfl, rfl⟩
      rw [h0.out]
      go_wp2_with fail
      refine (goes_any _ HE.out).mono ?_
      rintro e w' ⟨rfl, hb⟩
      go_wp2
      go_ret
      exact ⟨rfl, hb⟩
  · obtain ⟨h2, h3⟩ : 12 ≤ n ∧ n < 120000 := by omega
    have hb0 := lenM_bd n h2 h3
    have hf0 := firstM_bd n h2 h3
    have HS := Lib.hid (firstM_succ n h2 h3)
    clear h1 hn
    by_cases h4 : n = 119999
    · subst h4
      go_enter Tryd.func12, Tryd.ntmps12
      go_wp2_with fail
      refine (firstyes _ _ HE.out.lens h2 h3).mono ?_
      rintro e w1 ⟨rfl, rfl⟩
      go_wp2_with fail
      refine (firstno _ _ HE.out.lens (by omega)).mono ?_
      rintro e w1 ⟨rfl, rfl⟩
      go_wp2_with (first | (go_at_call 27; refine (length_any _ _ HE.out.lens).mono ?_; rintro e w' ⟨rfl, rfl⟩) | (go_at_call 26; refine (goes_any _ HE.out).mono ?_; rintro e w' ⟨rfl, hb⟩))
      all_goals (go_ret; exact ⟨rfl, by assumption⟩)
    · have hf1 := firstM_bd (n + 1) (by omega) (by omega)
      have hz : (firstM (n + 1) - firstM n == lenM n) = true := by have := HS.out; simp; omega
      by_cases h5 : n + 4800 < 120000
      all_goals
        go_enter Tryd.func12, Tryd.ntmps12
        go_wp2_with fail
        refine (firstyes n _ HE.out.lens h2 h3).mono ?_
        rintro e w1 ⟨rfl, rfl⟩
        go_wp2_with fail
        refine (firstyes _ _ HE.out.lens (by omega) (by omega)).mono ?_
        rintro e w1 ⟨rfl, rfl⟩
        go_wp2_with fail
      · have H4 := Lib.hid (firstM_400 n h2 h5)
        have hf4 := firstM_bd (n + 4800) (by omega) (by omega)
        have hq : (firstM (n + 4800) - firstM n == 146097) = true := by have := H4.out; simp; omega
        have hq' : (firstM (n + 4800) - firstM n != 146097) = false := by have := H4.out; simp; omega
        refine (firstyes _ _ HE.out.lens (by omega) (by omega)).mono ?_
        rintro e w1 ⟨rfl, rfl⟩
        go_wp2_with (first | (go_at_call 27; refine (length_any _ _ HE.out.lens).mono ?_; rintro e w' ⟨rfl, rfl⟩) | (go_at_call 26; refine (goes_any _ HE.out).mono ?_; rintro e w' ⟨rfl, hb⟩))
        all_goals (go_ret; exact ⟨rfl, by assumption⟩)
      · refine (firstno _ _ HE.out.lens (by omega)).mono ?_
        rintro e w1 ⟨rfl, rfl⟩
        go_wp2_with (first | (go_at_call 27; refine (length_any _ _ HE.out.lens).mono ?_; rintro e w' ⟨rfl, rfl⟩) | (go_at_call 26; refine (goes_any _ HE.out).mono ?_; rintro e w' ⟨rfl, hb⟩))
        all_goals (go_ret; exact ⟨rfl, by assumption⟩)
theorem text_b {y m d : Int} {s : ByteArray} (w : World) (hE : Env w) (hs : txtB y m d = s) : Calls Tryd.prog 24 #[.agg #[.int .i64 y, .int .i64 m, .int .i64 d]] w fun e w' => e = .returned (.string s) ∧ Below w.heap.size w w' :=
  (text_any y m d w hE).mono fun e w' ⟨he, hb⟩ => ⟨by rw [he, hs], hb⟩
theorem valid_yes {y m d : Int} (w : World) (hE : Env w) (hv : vldB y m d = true) : Calls Tryd.prog 25 #[.agg #[.int .i64 y, .int .i64 m, .int .i64 d]] w fun e w' => e = .returned (.bool true) ∧ Below w.heap.size w w' :=
  (valid_any y m d w hE.lens).mono fun e w' ⟨he, hb⟩ => ⟨by rw [he, hv], hb⟩
theorem valid_no {y m d : Int} (w : World) (hE : Env w) (hv : vldB y m d = false) : Calls Tryd.prog 25 #[.agg #[.int .i64 y, .int .i64 m, .int .i64 d]] w fun e w' => e = .returned (.bool false) ∧ Below w.heap.size w w' :=
  (valid_any y m d w hE.lens).mono fun e w' ⟨he, hb⟩ => ⟨by rw [he, hv], hb⟩
set_option maxHeartbeats 1000000 in
theorem texts_any (s : ByteArray) (w : World) (hE : Env w) : Calls Tryd.prog 7 #[.string s] w fun e w' => e = .returned (.bool true) ∧ Below w.heap.size w w' := by
  have HE := Lib.hid hE
  clear hE
  go_enter Tryd.func7, Tryd.ntmps7
  go_wp2_with fail
  refine (parse_any s _ HE.out).mono ?_
  rintro e w1 ⟨hb, h⟩
  have HE1 := Lib.hid (HE.out.below hb)
  have B1 := Lib.hid hb
  clear hb
  rcases h with ⟨y, m, d, hv, hs, rfl⟩ | ⟨_, rfl⟩
  · have HV := Lib.hid (vldB_t.2 hv)
    have hq : txtB y m d = s := ByteArray.ext (Array.toList_inj.1 (by rw [hs, txtB, if_pos HV.out]))
    have hsz : ((s.size : Int) == 10) = true := by
      have := congrArg List.length hs
      rw [txtL_length, Array.length_toList] at this
      have e : s.size = 10 := this
      simp [e]
    have HQ := Lib.hid hq
    clear hv hs hq
    go_wp2_with fail
    refine (valid_yes _ (HE1.out.alloc _) HV.out).mono ?_
    rintro e w2 ⟨rfl, hb⟩
    have B2 : Hid (Below w.heap.size w w2) := B1.out.trans ((below_box hb).mono B1.out.size)
    obtain ⟨a0, a1, a2⟩ := box3 hb
    clear hb
    go_wp2_with fail
    refine (text_b _ (HE.out.below B2.out) HQ.out).mono ?_
    rintro e w3 ⟨rfl, hb⟩
    have B3 : Hid (Below w.heap.size w w3) := onward hb B2.out
    clear hb
    go_wp2_with fail
    refine (goes_any _ (HE.out.below B3.out)).mono ?_
    rintro e w4 ⟨rfl, hb⟩
    have B4 : Hid (Below w.heap.size w w4) := onward hb B3.out
    clear hb
    go_wp2
    go_ret
    exact ⟨rfl, B4.out⟩
  · go_wp2_with fail
    refine (goes_any _ (HE1.out.alloc _)).mono ?_
    rintro e w2 ⟨rfl, hb⟩
    have B2 : Hid (Below w.heap.size w w2) := B1.out.trans ((below_box hb).mono B1.out.size)
    clear hb
    go_wp2
    go_ret
    exact ⟨rfl, B2.out⟩
end Go.Proofs.YtibjobmhjmdbhaaDoor
