/- The walk of the calendar's reference Of. -/
import Derived.Test.YtmppkhjjlgngkaaGreatDoorCivR
namespace Go.Proofs.YtmppkhjjlgngkaaGreatDoor
open Go.RowKit Civ
set_option linter.unusedVariables false
set_option linter.unusedSimpArgs false
def OfEnd (n : Int) (w : World) (e : Ending) (w' : World) : Prop := Below w.heap.size w w' ∧
  (((n < -719162 ∨ 2932896 < n) ∧ e = .returned (.tuple #[.agg #[.int .i64 0, .int .i64 0, .int .i64 0], .int .i64 1])) ∨
    ∃ y m d : Int, Vld y m d ∧ numD y m d = n ∧ e = .returned (.tuple #[.agg #[.int .i64 y, .int .i64 m, .int .i64 d], .int .i64 0]))
set_option maxHeartbeats 4000000 in
theorem rof_any (n : Int) (w : World) (h1 : -800000 ≤ n) (h2 : n ≤ 3000000) : Calls Tryz.prog 17 #[.int .i64 n] w (OfEnd n w) := by
  go_enter Tryz.func17, Tryz.ntmps17
  go_wp2_with fail
  go_loop [0, 4] (fun d k => ∃ D t : Int, 0 ≤ t ∧ t ≤ 1970 ∧ d = .int .i64 D ∧ k = .int .i64 t ∧ D + yearsF t = n + 719162 ∧ (t < 1970 → D < daysR t)) (fun _ k => (intOf k).toNat)
  case atStart => exact ⟨n, 1970, by omega, by omega, rfl, rfl, by rw [show yearsF 1970 = 719162 from by decide], by omega⟩
  case round =>
    obtain ⟨D, t, ht1, ht2, rfl, rfl, hs, hd⟩ := hrel
    have hyb : -366 ≤ yearsF t ∧ yearsF t ≤ 719162 := by unfold yearsF; omega
    have hy0 : t = 0 → yearsF t = -366 := by rintro rfl; decide
    have hy1 : 1 ≤ t → 0 ≤ yearsF t := by unfold yearsF; omega
    have hdb := daysR_bd t
    have HD : Hid (t < 1970 → D < daysR t) := hd
    clear hd
    by_cases c : D < 0 ∧ 0 < t
    · obtain ⟨c1, c2⟩ := c
      have hdc := daysR_bd (t - 1)
      have HS : Hid (yearsF t = yearsF (t - 1) + daysR (t - 1)) := by
        have := daysR_succ (t - 1) (by omega)
        rw [show t - 1 + 1 = t from by omega] at this
        exact this
      clear hy0 hy1
      have HH := Lib.hid hs
      go_wp2_with (go_at_call 36; refine (rdays_any _ _).mono ?_; rintro e w' ⟨rfl, rfl⟩)
      exact ⟨⟨D + daysR (t - 1), t - 1, by omega, by omega, rfl, rfl, by have := HS.out; omega, by omega⟩, by simp [intOf]; omega⟩
    · have hx : (0 < t ∧ 0 ≤ D) ∨ t = 0 := by omega
      clear c
      rcases hx with ⟨c1, c2⟩ | rfl
      · have hs' := Lib.hid hs
        have hn1 : -719162 ≤ n := by have := hy1 (by omega); omega
        have hD1 : D ≤ 3800000 := by have := hy1 (by omega); omega
        clear hy0 hy1 hyb hdb HD hs
        go_wp2_with fail
        go_loop [0, 4] (fun d k => ∃ D t : Int, 1 ≤ t ∧ t ≤ 10000 ∧ 0 ≤ D ∧ D ≤ 3800000 ∧ d = .int .i64 D ∧ k = .int .i64 t ∧ D + yearsF t = n + 719162) (fun _ k => (10000 - intOf k).toNat)
        case atStart => exact ⟨D, t, by omega, by omega, by omega, by omega, rfl, rfl, hs'.out⟩
        case round =>
          clear hs' c1 c2 hD1 ht1 ht2
          obtain ⟨D, t, ht1, ht2, hD1, hD2, rfl, rfl, hs⟩ := hrel
          have hdb := daysR_bd t
          have HS := Lib.hid (daysR_succ t (by omega))
          have HH := Lib.hid hs
          clear hs
          by_cases ct : t = 10000
          · have HN : Hid (2932896 < n) := by have := HH.out; rw [ct, show yearsF 10000 = 3652059 from by decide] at this; unfold Hid; omega
            subst ct
            clear hdb
            go_wp2
            exact bodyPost_ret (v := .tuple #[.agg #[.int .i64 0, .int .i64 0, .int .i64 0], .int .i64 1]) (by simp [results, Tryz.results17, go_sem]) rfl ⟨(Below.refl _ _).alloc (Nat.le_refl _) _, .inl ⟨.inr HN.out, rfl⟩⟩
          · by_cases cd : daysR t ≤ D
            · go_wp2_with (go_at_call 36; refine (rdays_any _ _).mono ?_; rintro e w' ⟨rfl, rfl⟩)
              exact ⟨⟨D - daysR t, t + 1, by omega, by omega, by omega, by omega, rfl, rfl, by have := HS.out; have := HH.out; omega⟩, by simp [intOf]; omega⟩
            · go_wp2_with (go_at_call 36; refine (rdays_any _ _).mono ?_; rintro e w' ⟨rfl, rfl⟩)
              have ht3 : t ≤ 9999 := by omega
              have H13 : Hid (cum t 12 = daysR t) := by unfold Hid; rw [daysR_eq t (by omega)]; exact cum_13 t ht1 ht3
              have HL : Hid (∀ k : Nat, 1 ≤ k → (k : Int) ≤ 12 → longR t k = lenM (12 * t + ((k - 1 : Nat) : Int))) := fun k k1 k2 => by
                rw [longR_eq t k ht1 ht3 (by omega) k2]; congr 1; omega
              have hD3 : D < daysR t := by omega
              clear cd hdb ct
              go_loop [0, 5] (fun d k => ∃ (E : Int) (j : Nat), 1 ≤ j ∧ j ≤ 12 ∧ 0 ≤ E ∧ E ≤ 3800000 ∧ d = .int .i64 E ∧ k = .int .i64 j ∧ E + cum t (j - 1) = D) (fun _ k => (13 - intOf k).toNat)
              case atStart => exact ⟨D, 1, by omega, by omega, by omega, by omega, rfl, rfl, by simp [cum]⟩
              case round =>
                obtain ⟨E, j, hj1, hj2, hE1, hE2, rfl, rfl, he⟩ := hrel
                have HEq := Lib.hid he
                clear he
                have hlb := longR_bd t j
                have HC : Hid (cum t j = cum t (j - 1) + longR t j) := by
                  unfold Hid
                  obtain ⟨i, rfl⟩ : ∃ i, j = i + 1 := ⟨j - 1, by omega⟩
                  rw [HL.out (i + 1) (by omega) (by omega)]
                  rfl
                by_cases ce : longR t j ≤ E
                · have hj3 : j < 12 := by
                    by_cases cj : j = 12
                    · have a1 := HC.out; have a2 := HEq.out; have a3 := H13.out
                      rw [cj] at a1 a2 ce
                      omega
                    · omega
                  go_wp2_with (go_at_call 27; refine (rlong_any _ _ _).mono ?_; rintro e w' ⟨rfl, rfl⟩)
                  refine ⟨⟨E - longR t j, j + 1, by omega, by omega, by omega, by omega, rfl, by go_num, ?_⟩, by simp [intOf]; omega⟩
                  have a1 := HC.out; have a2 := HEq.out
                  rw [show j + 1 - 1 = j from rfl, a1]
                  omega
                · have HV : Hid (Vld t j (E + 1) ∧ numD t j (E + 1) = n) := by
                    have a0 := HL.out j hj1 (by omega)
                    have a1 := firstM_at t (j - 1) (by omega)
                    rw [show 12 * t + ((j - 1 : Nat) : Int) = 12 * t + j - 1 from by omega] at a0 a1
                    have a2 := HEq.out
                    have a3 := HH.out
                    unfold Hid Vld numD
                    rw [← a0, a1]
                    omega
                  go_wp2_with (go_at_call 27; refine (rlong_any _ _ _).mono ?_; rintro e w' ⟨rfl, rfl⟩)
                  refine bodyPost_ret (v := .tuple #[.agg #[.int .i64 t, .int .i64 j, .int .i64 (E + 1)], .int .i64 0]) (by simp [results, Tryz.results17, go_sem]) rfl ⟨?_, .inr ⟨t, j, E + 1, HV.out.1, HV.out.2, rfl⟩⟩
                  exact (Below.refl _ _).alloc (Nat.le_refl _) _
      · have hn1 : n < -719162 := by have := hy0 rfl; have := HD.out (by omega); have : daysR 0 = 366 := by decide
                                     omega
        have HN := Lib.hid hn1
        clear hy0 hy1 hyb hdb HD hs hn1
        go_wp2
        all_goals exact bodyPost_ret (v := .tuple #[.agg #[.int .i64 0, .int .i64 0, .int .i64 0], .int .i64 1]) (by simp [results, Tryz.results17, go_sem]) rfl ⟨(Below.refl _ _).alloc (Nat.le_refl _) _, .inl ⟨.inl HN.out, rfl⟩⟩
end Go.Proofs.YtmppkhjjlgngkaaGreatDoor
