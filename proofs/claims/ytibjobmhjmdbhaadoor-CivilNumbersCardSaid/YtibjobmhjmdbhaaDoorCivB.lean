/- The walks of civil's Day, Month, First, Clamp and Of. -/
import Derived.Test.YtibjobmhjmdbhaaDoorCivA
namespace Go.Proofs.YtibjobmhjmdbhaaDoor
open Go.RowKit Civ
theorem bcell {W w1 : World} (hb : Below W.heap.size W w1) : (∀ b o, b < W.heap.size → w1.cell? ⟨b, o, none⟩ = W.cell? ⟨b, o, none⟩) ∧ (∀ b o, b < W.heap.size → w1.frozen? ⟨b, o, none⟩ = W.frozen? ⟨b, o, none⟩) :=
  ⟨fun b o h => hb.cell (p := ⟨b, o, none⟩) h, fun b o h => hb.frozen (p := ⟨b, o, none⟩) h⟩
theorem below_box {w w1 : World} {o : Obj} (h : Below (w.alloc o).heap.size (w.alloc o) w1) : Below w.heap.size w w1 :=
  ((Below.refl _ _).alloc (Nat.le_refl _) _).trans (h.mono (by simp))
theorem ret2 {k l : IntKind} {a b c d : Int} (h : a = b) (h' : c = d) : Ending.returned (.tuple #[.int k a, .int l c]) = .returned (.tuple #[.int k b, .int l d]) := by rw [h, h']
set_option maxHeartbeats 400000 in
theorem day_yes (y m d : Int) (w : World) (hL : Lens w) (hv : Vld y m d) : Calls Tryd.prog 21 #[.agg #[.int .i64 y, .int .i64 m, .int .i64 d]] w fun e w' => e = .returned (.tuple #[.int .i64 (numD y m d), .int .i64 0]) ∧ Below w.heap.size w w' := by
  have HL := Lib.hid (hL.alloc (.cells #[.int .i64 y, .int .i64 m, .int .i64 d] 46)) 
  clear hL
  have HV := Lib.hid (vldB_t.2 hv)
  obtain ⟨c1, c2, c3, c4, c5, c6⟩ := hv
  have hl := lenM_bd (12 * y + m - 1) (by omega) (by omega)
  have hf := firstM_bd (12 * y + m - 1) (by omega) (by omega)
  have HN : Hid (numD y m d = firstM (12 * y + m - 1) + d - 1) := rfl
  go_enter Tryd.func21, Tryd.ntmps21
  go_wp2_with (go_at_call 25; refine (valid_any _ _ _ _ HL.out).mono ?_; rintro e w' ⟨rfl, hb⟩; rw [HV.out]; have HL1 := Lib.hid (HL.out.below hb); obtain ⟨hc, hfz⟩ := bcell hb)
  have HL1 : Hid (Lens w') := by assumption
  have HB : Hid (Below w.heap.size w w') := below_box (by assumption)
  go_quiet ((first | (go_at_call 52; exact Calls.quiet_of_same ((number_any _ _ _ (by omega) (by omega) (by omega) (by omega)).mono fun e w' ⟨h1, h2⟩ => ⟨h1, h2.symm⟩)) | (go_at_call 51; exact Calls.quiet_of_same ((first_any _ _ (HL1.out.drewN _) (by omega) (by omega)).mono fun e w' ⟨h1, h2⟩ => ⟨h1, h2.symm⟩))))
  go_wp2
  go_ret2
  exact ⟨ret2 HN.out.symm rfl, World.below_drewN HB.out _⟩
set_option maxHeartbeats 400000 in
theorem day_no (y m d : Int) (w : World) (hL : Lens w) (hv : ¬ Vld y m d) : Calls Tryd.prog 21 #[.agg #[.int .i64 y, .int .i64 m, .int .i64 d]] w fun e w' => e = .returned (.tuple #[.int .i64 0, .int .i64 1]) ∧ Below w.heap.size w w' := by
  have HL := Lib.hid (hL.alloc (.cells #[.int .i64 y, .int .i64 m, .int .i64 d] 46)) 
  clear hL
  have HV := Lib.hid (vldB_f.2 hv)
  clear hv
  go_enter Tryd.func21, Tryd.ntmps21
  go_wp2_with (go_at_call 25; refine (valid_any _ _ _ _ HL.out).mono ?_; rintro e w' ⟨rfl, hb⟩; rw [HV.out]; have HB := Lib.hid hb; clear hb)
  have HB : Hid (Below w.heap.size w w') := below_box (Hid.out (by assumption))
  go_ret2
  exact ⟨rfl, HB.out⟩
set_option maxHeartbeats 400000 in
theorem month_any (y m d : Int) (w : World) (hL : Lens w) : Calls Tryd.prog 30 #[.agg #[.int .i64 y, .int .i64 m, .int .i64 d]] w fun e w' => e = .returned (.int .i64 (if vldB y m d = true then 12 * y + m - 1 else 0)) ∧ Below w.heap.size w w' := by
  have HL := Lib.hid (hL.alloc (.cells #[.int .i64 y, .int .i64 m, .int .i64 d] 46)) 
  clear hL
  cases hv : vldB y m d
  · have HV := Lib.hid hv
    clear hv
    go_enter Tryd.func30, Tryd.ntmps30
    go_wp2_with (go_at_call 25; refine (valid_any _ _ _ _ HL.out).mono ?_; rintro e w' ⟨rfl, hb⟩; rw [HV.out]; have HB := Lib.hid hb; clear hb)
    have HB : Hid (Below w.heap.size w w') := below_box (Hid.out (by assumption))
    go_ret
    exact ⟨rfl, HB.out⟩
  · have HV := Lib.hid hv
    obtain ⟨c1, c2, c3, c4, c5, c6⟩ := vldB_t.1 hv
    clear hv
    go_enter Tryd.func30, Tryd.ntmps30
    go_wp2_with (first | (go_at_call 25; refine (valid_any _ _ _ _ HL.out).mono ?_; rintro e w' ⟨rfl, hb⟩; rw [HV.out]; obtain ⟨hc, hfz⟩ := bcell hb) | (go_at_call 52; refine (number_any _ _ _ (by omega) (by omega) (by omega) (by omega)).mono ?_; rintro e w' ⟨rfl, rfl⟩))
    go_ret
    exact ⟨rfl, below_box (by assumption)⟩
set_option maxHeartbeats 400000 in
theorem firstno (m : Int) (w : World) (hL : Lens w) (h : m < 12 ∨ 120000 ≤ m) : Calls Tryd.prog 35 #[.int .i64 m] w fun e w' => e = .returned (.tuple #[.int .i64 0, .int .i64 1]) ∧ w = w' := by
  have H0 := Lib.hid (lenM_no h)
  have HL := Lib.hid hL
  clear hL h
  go_enter Tryd.func35, Tryd.ntmps35
  go_wp2_with (go_at_call 27; refine (length_any _ _ HL.out).mono ?_; rintro e w' ⟨rfl, rfl⟩; rw [H0.out])
  go_ret2
  exact ⟨rfl, rfl⟩
set_option maxHeartbeats 400000 in
theorem firstyes (m : Int) (w : World) (hL : Lens w) (h1 : 12 ≤ m) (h2 : m < 120000) : Calls Tryd.prog 35 #[.int .i64 m] w fun e w' => e = .returned (.tuple #[.int .i64 (firstM m), .int .i64 0]) ∧ w = w' := by
  have h0 := lenM_bd m h1 h2
  have HL := Lib.hid hL
  clear hL
  go_enter Tryd.func35, Tryd.ntmps35
  go_wp2_with (first | (go_at_call 27; refine (length_any _ _ HL.out).mono ?_; rintro e w' ⟨rfl, rfl⟩) | (go_at_call 51; refine (first_any _ _ HL.out h1 h2).mono ?_; rintro e w' ⟨rfl, rfl⟩))
  go_ret2
  exact ⟨rfl, rfl⟩
set_option maxHeartbeats 400000 in
theorem clamp_no (m n : Int) (w : World) (hL : Lens w) (h : m < 12 ∨ 120000 ≤ m ∨ n < 1) : Calls Tryd.prog 37 #[.int .i64 m, .int .i64 n] w fun e w' => e = .returned (.tuple #[.agg #[.int .i64 0, .int .i64 0, .int .i64 0], .int .i64 1]) ∧ Below w.heap.size w w' := by
  have HL := Lib.hid (hL.alloc (.cells #[.int .i64 0, .int .i64 0, .int .i64 0] 46)) 
  have HB := Lib.hid ((Below.refl w.heap.size w).alloc (Nat.le_refl _) (.cells #[.int .i64 0, .int .i64 0, .int .i64 0] 46))
  clear hL
  by_cases h' : m < 12 ∨ 120000 ≤ m
  · have H0 := Lib.hid (lenM_no h')
    clear h h'
    go_enter Tryd.func37, Tryd.ntmps37
    go_wp2_with (go_at_call 27; refine (length_any _ _ HL.out).mono ?_; rintro e w' ⟨rfl, rfl⟩; rw [H0.out])
    refine bodyPost_ret (v := .tuple #[.agg #[.int .i64 0, .int .i64 0, .int .i64 0], .int .i64 1]) (by simp [results, Tryd.results37, go_sem]) rfl ⟨rfl, ?_⟩
    exact ((Below.refl _ _).alloc (Nat.le_refl _) _)
  · have h0 := lenM_bd m (by omega) (by omega)
    have h1 : n < 1 := by omega
    clear h h'
    go_enter Tryd.func37, Tryd.ntmps37
    go_wp2_with (go_at_call 27; refine (length_any _ _ HL.out).mono ?_; rintro e w' ⟨rfl, rfl⟩)
    refine bodyPost_ret (v := .tuple #[.agg #[.int .i64 0, .int .i64 0, .int .i64 0], .int .i64 1]) (by simp [results, Tryd.results37, go_sem]) rfl ⟨rfl, ?_⟩
    exact ((Below.refl _ _).alloc (Nat.le_refl _) _)
set_option maxHeartbeats 400000 in
theorem clamp_yes (m n : Int) (w : World) (hL : Lens w) (h1 : 12 ≤ m) (h2 : m < 120000) (h3 : 1 ≤ n) : Calls Tryd.prog 37 #[.int .i64 m, .int .i64 n] w fun e w' => e = .returned (.tuple #[.agg #[.int .i64 (m / 12), .int .i64 (m % 12 + 1), .int .i64 (min n (lenM m))], .int .i64 0]) ∧ Below w.heap.size w w' := by
  have HL := Lib.hid (hL.alloc (.cells #[.int .i64 0, .int .i64 0, .int .i64 0] 46)) 
  clear hL
  have h0 := lenM_bd m (by omega) (by omega)
  have hz : (lenM m == 0) = false := by simp; omega
  rcases Int.le_total n (lenM m) with h4 | h4
  all_goals
    have HM := Lib.hid (show min n (lenM m) = _ from by first | exact Int.min_eq_left h4 | exact Int.min_eq_right h4)
    go_enter Tryd.func37, Tryd.ntmps37
    go_wp2_with (go_at_call 27; refine (length_any _ _ HL.out).mono ?_; rintro e w' ⟨rfl, rfl⟩)
    all_goals (refine bodyPost_ret (v := .tuple #[.agg #[.int .i64 (m / 12), .int .i64 (m % 12 + 1), .int .i64 (min n (lenM m))], .int .i64 0]) (by rw [HM.out]; simp [results, Tryd.results37, go_sem]; try omega) rfl ⟨rfl, ?_⟩)
    all_goals exact ((Below.refl _ _).alloc (Nat.le_refl _) _)
set_option maxHeartbeats 400000 in
theorem of_no (n : Int) (w : World) (h : n < -719162 ∨ 2932896 < n) : Calls Tryd.prog 22 #[.int .i64 n] w fun e w' => e = .returned (.tuple #[.agg #[.int .i64 0, .int .i64 0, .int .i64 0], .int .i64 1]) ∧ Below w.heap.size w w' := by
  rcases h with h | h
  · go_enter Tryd.func22, Tryd.ntmps22
    go_wp2
    exact bodyPost_ret (v := .tuple #[.agg #[.int .i64 0, .int .i64 0, .int .i64 0], .int .i64 1]) (by simp [results, Tryd.results22, go_sem]) rfl ⟨rfl, (Below.refl _ _).alloc (Nat.le_refl _) _⟩
  · have h' : ¬ n < -719162 := by omega
    go_enter Tryd.func22, Tryd.ntmps22
    go_wp2
    exact bodyPost_ret (v := .tuple #[.agg #[.int .i64 0, .int .i64 0, .int .i64 0], .int .i64 1]) (by simp [results, Tryd.results22, go_sem]) rfl ⟨rfl, (Below.refl _ _).alloc (Nat.le_refl _) _⟩
theorem guess (n : Int) (h1 : -719162 ≤ n) (h2 : n ≤ 2932896) : 1 ≤ (n + 719162) / 366 + 1 ∧ (n + 719162) / 366 + 1 ≤ 9999 ∧ yearsF ((n + 719162) / 366 + 1) ≤ n + 719162 := by
  unfold yearsF
  omega
set_option maxHeartbeats 1000000 in
theorem of_yes (n : Int) (w : World) (hL : Lens w) (h1 : -719162 ≤ n) (h2 : n ≤ 2932896) : Calls Tryd.prog 22 #[.int .i64 n] w fun e w' => ∃ y m d : Int, Vld y m d ∧ numD y m d = n ∧ e = .returned (.tuple #[.agg #[.int .i64 y, .int .i64 m, .int .i64 d], .int .i64 0]) ∧ Below w.heap.size w w' := by
  have HL := Lib.hid (hL.alloc (.cells #[.int .i64 0, .int .i64 0, .int .i64 0] 46)) 
  clear hL
  have g0 := guess n h1 h2
  have hmax : yearsF 10000 = 3652059 := by decide
  have HX := Lib.hid hmax
  clear hmax
  go_enter Tryd.func22, Tryd.ntmps22
  go_wp2
  go_loop [4] (fun t => ∃ y : Int, 1 ≤ y ∧ y ≤ 9999 ∧ yearsF y ≤ n + 719162 ∧ t = .int .i64 y) (fun t => (9999 - intOf t).toNat)
  case atStart => exact ⟨_, by omega, by omega, g0.2.2, rfl⟩
  case round =>
    obtain ⟨y, hy1, hy2, hy3, rfl⟩ := hrel
    have hyb := yearsF_bd (y + 1) (by omega) (by omega)
    by_cases hc : y < 9999 ∧ yearsF (y + 1) ≤ n + 719162
    · obtain ⟨hlt, hd⟩ := hc
      clear g0
      go_wp2_with (go_at_call 53; refine (years_any _ _ (by omega) (by omega)).mono ?_; rintro e w' ⟨rfl, rfl⟩)
      exact ⟨⟨y + 1, by omega, by omega, hd, rfl⟩, by simp [intOf]; omega⟩
    · have hz : n + 719162 < yearsF (y + 1) := by
        by_cases e : y = 9999
        · have := HX.out; rw [e, show (9999 : Int) + 1 = 10000 from rfl]; omega
        · omega
      clear hc g0
      have F0 : Hid (firstM (12 * y) ≤ n ∧ ∀ m, 12 * y ≤ m → m ≤ 12 * y + 11 → (m = 12 * y + 11 ∨ n < firstM (m + 1)) → firstM m ≤ n → Vld y (m - 12 * y + 1) (n - firstM m + 1) ∧ numD y (m - 12 * y + 1) (n - firstM m + 1) = n) := by
        constructor
        · have := firstM_at y 0 (by omega); simp [cum] at this; omega
        · intro m m1 m2 m3 m4
          have hs := firstM_succ m (by omega) (by omega)
          have hn : n < firstM (m + 1) := by
            rcases m3 with m3 | m3
            · have := firstM_at (y + 1) 0 (by omega)
              simp [cum] at this
              rw [m3, show 12 * y + 11 + 1 = 12 * (y + 1) from by omega]
              omega
            · exact m3
          unfold Vld numD
          rw [show 12 * y + (m - 12 * y + 1) - 1 = m from by omega]
          omega
      by_cases hlt : y < 9999
      all_goals
        go_wp2_with (go_at_call 53; refine (years_any _ _ (by omega) (by omega)).mono ?_; rintro e w' ⟨rfl, rfl⟩)
        go_loop [5] (fun t => ∃ m : Int, 12 * y ≤ m ∧ m ≤ 12 * y + 11 ∧ firstM m ≤ n ∧ t = .int .i64 m) (fun t => (12 * y + 11 - intOf t).toNat)
        case atStart => exact ⟨12 * y, by omega, by omega, F0.out.1, rfl⟩
        case round =>
          obtain ⟨m, hm1, hm2, hm3, rfl⟩ := hrel
          have hmb := firstM_bd m (by omega) (by omega)
          by_cases hc : m < 12 * y + 11 ∧ firstM (m + 1) ≤ n
          · obtain ⟨hm, hd⟩ := hc
            go_wp2_with (go_at_call 51; refine (first_any _ _ HL.out (by omega) (by omega)).mono ?_; rintro e w' ⟨rfl, rfl⟩)
            exact ⟨⟨m + 1, by omega, by omega, hd, rfl⟩, by simp [intOf]; omega⟩
          · have FD := Lib.hid (F0.out.2 m hm1 hm2 (by omega) hm3)
            by_cases hm : m < 12 * y + 11
            all_goals
              have hq : m % 12 + 1 = m - 12 * y + 1 := by omega
              have HQ := Lib.hid hq
              clear hq
              go_wp2_with (go_at_call 51; refine (first_any _ _ HL.out (by omega) (by omega)).mono ?_; rintro e w' ⟨rfl, rfl⟩)
              refine bodyPost_ret (v := .tuple #[.agg #[.int .i64 y, .int .i64 (m - 12 * y + 1), .int .i64 (n - firstM m + 1)], .int .i64 0]) (by rw [← HQ.out]; simp [results, Tryd.results22, go_sem]) rfl ⟨y, _, _, FD.out.1, FD.out.2, rfl, ?_⟩
              exact (Below.refl _ _).alloc (Nat.le_refl _) _
end Go.Proofs.YtibjobmhjmdbhaaDoor
