/- The walk of the calendar's law CivilNumbers. -/
import Derived.Test.YtibjobmhjmdbhaaDoorCivD
import Derived.Test.YtibjobmhjmdbhaaDoorCivO
namespace Go.Proofs.YtibjobmhjmdbhaaDoor
open Go.RowKit Civ
set_option linter.unusedVariables false
set_option linter.unusedSimpArgs false
theorem has_date (n : Int) (h1 : -719162 ≤ n) (h2 : n ≤ 2932896) : ∃ y m d : Int, Vld y m d ∧ numD y m d = n := by
  have key : ∀ k : Nat, (k : Int) ≤ 119988 → n < firstM (12 + k) → ∃ m : Int, 12 ≤ m ∧ m < 120000 ∧ firstM m ≤ n ∧ n < firstM (m + 1) := by
    intro k
    induction k with
    | zero => intro _ h; have : firstM (12 + ((0 : Nat) : Int)) = -719162 := by decide
              omega
    | succ k ih =>
      intro hk h
      by_cases c : n < firstM (12 + k)
      · exact ih (by omega) c
      · exact ⟨12 + k, by omega, by omega, by omega, by rw [show 12 + (k : Int) + 1 = 12 + ((k + 1 : Nat) : Int) from by omega]; exact h⟩
  obtain ⟨m, m1, m2, m3, m4⟩ := key 119988 (by decide) (by have : firstM (12 + ((119988 : Nat) : Int)) = 2932897 := by decide
                                                           omega)
  have hs := firstM_succ m m1 m2
  refine ⟨m / 12, m % 12 + 1, n - firstM m + 1, ?_⟩
  unfold Vld numD
  rw [show 12 * (m / 12) + (m % 12 + 1) - 1 = m from by omega]
  omega
/-- what Of answers -/
def OfV (n y m d er : Int) : Prop := ((n < -719162 ∨ 2932896 < n) ∧ y = 0 ∧ m = 0 ∧ d = 0 ∧ er = 1) ∨ (Vld y m d ∧ numD y m d = n ∧ er = 0)
theorem ofV_has (n : Int) : ∃ y m d er, OfV n y m d er := by
  by_cases h : n < -719162 ∨ 2932896 < n
  · exact ⟨0, 0, 0, 1, .inl ⟨h, rfl, rfl, rfl, rfl⟩⟩
  · obtain ⟨y, m, d, h1, h2⟩ := has_date n (by omega) (by omega)
    exact ⟨y, m, d, 0, .inr ⟨h1, h2, rfl⟩⟩
theorem of_b {n y m d er : Int} (w : World) (hE : Env w) (h : OfV n y m d er) : Calls Tryd.prog 22 #[.int .i64 n] w fun e w' => e = .returned (.tuple #[.agg #[.int .i64 y, .int .i64 m, .int .i64 d], .int .i64 er]) ∧ Below w.heap.size w w' := by
  rcases h with ⟨h, rfl, rfl, rfl, rfl⟩ | ⟨h1, rfl, rfl⟩
  · exact of_no n w h
  · exact of_num w hE h1
theorem rof_b {n y m d er : Int} (w : World) (h : OfV n y m d er) (h1 : -800000 ≤ n) (h2 : n ≤ 3000000) : Calls Tryd.prog 34 #[.int .i64 n] w fun e w' => e = .returned (.tuple #[.agg #[.int .i64 y, .int .i64 m, .int .i64 d], .int .i64 er]) ∧ Below w.heap.size w w' := by
  refine (rof_any n w h1 h2).mono ?_
  rintro e w' ⟨hb, h'⟩
  rcases h with ⟨h, rfl, rfl, rfl, rfl⟩ | ⟨g1, g2, rfl⟩
  · rcases h' with ⟨_, he⟩ | ⟨y', m', d', h3, h4, _⟩
    · exact ⟨he, hb⟩
    · have := numD_bd h3; omega
  · rcases h' with ⟨h3, _⟩ | ⟨y', m', d', h3, h4, he⟩
    · have := numD_bd g1; omega
    · obtain ⟨rfl, rfl, rfl⟩ := numD_inj h3 g1 (h4.trans g2.symm)
      exact ⟨he, hb⟩
def FstV (m v er : Int) : Prop := ((m < 12 ∨ 120000 ≤ m) ∧ v = 0 ∧ er = 1) ∨ (12 ≤ m ∧ m < 120000 ∧ v = firstM m ∧ er = 0)
theorem fstV_has (m : Int) : ∃ v er, FstV m v er := by
  by_cases h : m < 12 ∨ 120000 ≤ m
  · exact ⟨0, 1, .inl ⟨h, rfl, rfl⟩⟩
  · exact ⟨firstM m, 0, .inr ⟨by omega, by omega, rfl, rfl⟩⟩
theorem first_b {m v er : Int} (w : World) (hE : Env w) (h : FstV m v er) : Calls Tryd.prog 35 #[.int .i64 m] w fun e w' => e = .returned (.tuple #[.int .i64 v, .int .i64 er]) ∧ Below w.heap.size w w' := by
  rcases h with ⟨h, rfl, rfl⟩ | ⟨h1, h2, rfl, rfl⟩
  · exact (firstno m w hE.lens h).mono fun _ _ ⟨h, hb⟩ => ⟨h, hb ▸ Below.refl _ _⟩
  · exact (firstyes m w hE.lens h1 h2).mono fun _ _ ⟨h, hb⟩ => ⟨h, hb ▸ Below.refl _ _⟩
theorem rfirst_b {m v er : Int} (w : World) (h : FstV m v er) : Calls Tryd.prog 36 #[.int .i64 m] w fun e w' => e = .returned (.tuple #[.int .i64 v, .int .i64 er]) ∧ Below w.heap.size w w' := by
  rcases h with ⟨h, rfl, rfl⟩ | ⟨h1, h2, rfl, rfl⟩
  · exact rfirst_no m w h
  · exact rfirst_yes m w h1 h2
theorem length_v {m l : Int} (w : World) (hE : Env w) (h : lenM m = l) : Calls Tryd.prog 27 #[.int .i64 m] w fun e w' => e = .returned (.int .i64 l) ∧ Below w.heap.size w w' :=
  (length_any m w hE.lens).mono fun _ _ ⟨he, hb⟩ => ⟨he.trans (by rw [h]), hb ▸ Below.refl _ _⟩
theorem rlength_v {m l : Int} (w : World) (h : lenM m = l) : Calls Tryd.prog 38 #[.int .i64 m] w fun e w' => e = .returned (.int .i64 l) ∧ Below w.heap.size w w' :=
  (rlength_any m w).mono fun _ _ ⟨he, hb⟩ => ⟨he.trans (by rw [h]), hb ▸ Below.refl _ _⟩
theorem box3f {W W1 : World} {a b c : Value} {T : Nat} (hb : Below (W.alloc (.cells #[a, b, c] T)).heap.size (W.alloc (.cells #[a, b, c] T)) W1) : W1.frozen? ⟨W.heap.size, 0, none⟩ = false ∧ W1.frozen? ⟨W.heap.size, 1, none⟩ = false ∧ W1.frozen? ⟨W.heap.size, 2, none⟩ = false := by
  have h := (bcell hb).2
  refine ⟨?_, ?_, ?_⟩ <;> (rw [h _ _ (by simp)]; simp [go_sem])
theorem set3 {W W1 : World} {a b c x y z : Value} {T : Nat} (hb : Below (W.alloc (.cells #[a, b, c] T)).heap.size (W.alloc (.cells #[a, b, c] T)) W1) :
    Below W.heap.size W (((W1.setCell ⟨W.heap.size, 0, none⟩ x).setCell ⟨W.heap.size, 1, none⟩ y).setCell ⟨W.heap.size, 2, none⟩ z) ∧
    (((W1.setCell ⟨W.heap.size, 0, none⟩ x).setCell ⟨W.heap.size, 1, none⟩ y).setCell ⟨W.heap.size, 2, none⟩ z).cell? ⟨W.heap.size, 0, none⟩ = some x ∧
    (((W1.setCell ⟨W.heap.size, 0, none⟩ x).setCell ⟨W.heap.size, 1, none⟩ y).setCell ⟨W.heap.size, 2, none⟩ z).cell? ⟨W.heap.size, 1, none⟩ = some y ∧
    (((W1.setCell ⟨W.heap.size, 0, none⟩ x).setCell ⟨W.heap.size, 1, none⟩ y).setCell ⟨W.heap.size, 2, none⟩ z).cell? ⟨W.heap.size, 2, none⟩ = some z := by
  obtain ⟨a0, a1, a2⟩ := box3 hb
  refine ⟨(((below_box hb).setCell (Nat.le_refl _) _).setCell (Nat.le_refl _) _).setCell (Nat.le_refl _) _, ?_, ?_, ?_⟩ <;> simp [go_sem, a0, a1, a2]
theorem clamp_q {m n l q : Int} (w : World) (hE : Env w) (h1 : 12 ≤ m) (h2 : m < 120000) (h3 : 1 ≤ n) (hl : lenM m = l) (hq : min n l = q) : Calls Tryd.prog 37 #[.int .i64 m, .int .i64 n] w fun e w' => e = .returned (.tuple #[.agg #[.int .i64 (m / 12), .int .i64 (m % 12 + 1), .int .i64 q], .int .i64 0]) ∧ Below w.heap.size w w' := by
  subst hl hq
  exact clamp_yes m n w hE.lens h1 h2 h3
theorem lenC (m n : Int) {l : Int} (hl : lenM m = l) : (l = 0 ∧ (m < 12 ∨ 120000 ≤ m ∨ n < 1)) ∨ ((l == 0) = false ∧ n < 1 ∧ (m < 12 ∨ 120000 ≤ m ∨ n < 1)) ∨ ((l == 0) = false ∧ ¬ n < 1 ∧ 12 ≤ m ∧ m < 120000 ∧ n ≤ l ∧ min n l = n) ∨ ((l == 0) = false ∧ ¬ n < 1 ∧ ¬ n ≤ l ∧ 12 ≤ m ∧ m < 120000 ∧ min n l = l) := by
  subst hl
  by_cases h : m < 12 ∨ 120000 ≤ m
  · exact .inl ⟨lenM_no h, by omega⟩
  · have hb := lenM_bd m (by omega) (by omega)
    have hz : (lenM m == 0) = false := by simp; omega
    by_cases h1 : n < 1
    · exact .inr (.inl ⟨hz, h1, .inr (.inr h1)⟩)
    · by_cases h2 : n ≤ lenM m
      · exact .inr (.inr (.inl ⟨hz, h1, by omega, by omega, h2, Int.min_eq_left h2⟩))
      · exact .inr (.inr (.inr ⟨hz, h1, h2, by omega, by omega, Int.min_eq_right (by omega)⟩))
set_option maxHeartbeats 4000000 in
set_option maxRecDepth 10000000 in
theorem num_in {day month n y m d er v fe l : Int} (w : World) (HE : Hid (Env w)) (HO : Hid (OfV day y m d er)) (HF : Hid (FstV month v fe)) (HL : Hid (lenM month = l)) (hlb : 0 ≤ l ∧ l ≤ 32) (hr : -800000 ≤ day ∧ day ≤ 3000000) : Calls Tryd.prog 10 #[.int .i64 day, .int .i64 month, .int .i64 n] w (Fine w) := by
  rcases lenC month n HL.out with ⟨rfl, hc⟩ | ⟨hz, c1, hc⟩ | ⟨hz, c1, g1, g2, c2, hq⟩ | ⟨hz, c1, c2, g1, g2, hq⟩
  · have HC := Lib.hid hc
    clear hc
    obtain ⟨r1, r2⟩ := hr
    go_enter Tryd.func10, Tryd.ntmps10
    go_wp2_with fail
    refine (rof_b _ HO.out r1 r2).mono ?_
    rintro e w1 ⟨rfl, hb⟩
    obtain ⟨a0, a1, a2⟩ := box3 hb
    obtain ⟨f0, f1, f2⟩ := box3f hb
    have HS := Lib.hid (fun x y z => set3 (x := x) (y := y) (z := z) hb)
    clear r1 r2 hb
    go_wp2_with fail
    obtain ⟨B1, x0, x1, x2⟩ := HS.out (.int .i64 y) (.int .i64 m) (.int .i64 d)
    generalize ((w1.setCell ⟨w.heap.size, 0, none⟩ (.int .i64 y)).setCell ⟨w.heap.size, 1, none⟩ (.int .i64 m)).setCell ⟨w.heap.size, 2, none⟩ (.int .i64 d) = W1 at *
    clear a0 a1 a2 f0 f1 f2 HS
    refine (of_b _ (HE.out.below B1) HO.out).mono ?_
    rintro e w2 ⟨rfl, hb⟩
    have B2 := Lib.hid (onward hb B1)
    replace x0 := stays hb x0
    replace x1 := stays hb x1
    replace x2 := stays hb x2
    clear hb B1
    go_wp2_with fail
    refine (first_b _ ((HE.out.below B2.out).alloc _) HF.out).mono ?_
    rintro e w3 ⟨rfl, hb⟩
    have B3 : Hid (Below w.heap.size w w3) := B2.out.trans ((below_box hb).mono B2.out.size)
    obtain ⟨y0, y1, y2⟩ := box3 hb
    replace x0 := stays (below_box hb) x0
    replace x1 := stays (below_box hb) x1
    replace x2 := stays (below_box hb) x2
    clear hb B2
    go_wp2_with fail
    refine (rfirst_b _ HF.out).mono ?_
    rintro e w4 ⟨rfl, hb⟩
    have B4 : Hid (Below w.heap.size w w4) := onward hb B3.out
    replace x0 := stays hb x0
    replace x1 := stays hb x1
    replace x2 := stays hb x2
    replace y0 := stays hb y0
    replace y1 := stays hb y1
    replace y2 := stays hb y2
    clear hb B3
    go_wp2_with fail
    refine (clamp_no _ _ _ (HE.out.below B4.out).lens HC.out).mono ?_
    rintro e w5 ⟨rfl, hb⟩
    have B5 : Hid (Below w.heap.size w w5) := onward hb B4.out
    replace x0 := stays hb x0
    replace x1 := stays hb x1
    replace x2 := stays hb x2
    replace y0 := stays hb y0
    replace y1 := stays hb y1
    replace y2 := stays hb y2
    clear hb B4
    go_wp2_with fail
    refine (rlength_v _ HL.out).mono ?_
    rintro e w6 ⟨rfl, hb⟩
    have B6 : Hid (Below w.heap.size w w6) := B5.out.trans ((below_box hb).mono B5.out.size)
    obtain ⟨z0, z1, z2⟩ := box3 hb
    replace x0 := stays (below_box hb) x0
    replace x1 := stays (below_box hb) x1
    replace x2 := stays (below_box hb) x2
    replace y0 := stays (below_box hb) y0
    replace y1 := stays (below_box hb) y1
    replace y2 := stays (below_box hb) y2
    clear hb B5
    go_wp2_with fail
    refine (length_v _ (HE.out.below B6.out) HL.out).mono ?_
    rintro e w7 ⟨rfl, hb⟩
    have B7 : Hid (Below w.heap.size w w7) := onward hb B6.out
    replace z0 := stays hb z0
    replace z1 := stays hb z1
    replace z2 := stays hb z2
    clear hb B6 x0 x1 x2 y0 y1 y2
    go_wp2_with fail
    refine (goes_any _ (HE.out.below B7.out)).mono ?_
    rintro e w8 ⟨rfl, hb⟩
    have B8 : Hid (Below w.heap.size w w8) := onward hb B7.out
    clear hb B7 z0 z1 z2
    go_wp2
    go_ret
    exact ⟨rfl, B8.out⟩
  · have HC := Lib.hid hc
    clear hc
    obtain ⟨r1, r2⟩ := hr
    go_enter Tryd.func10, Tryd.ntmps10
    go_wp2_with fail
    refine (rof_b _ HO.out r1 r2).mono ?_
    rintro e w1 ⟨rfl, hb⟩
    obtain ⟨a0, a1, a2⟩ := box3 hb
    obtain ⟨f0, f1, f2⟩ := box3f hb
    have HS := Lib.hid (fun x y z => set3 (x := x) (y := y) (z := z) hb)
    clear r1 r2 hb
    go_wp2_with fail
    obtain ⟨B1, x0, x1, x2⟩ := HS.out (.int .i64 y) (.int .i64 m) (.int .i64 d)
    generalize ((w1.setCell ⟨w.heap.size, 0, none⟩ (.int .i64 y)).setCell ⟨w.heap.size, 1, none⟩ (.int .i64 m)).setCell ⟨w.heap.size, 2, none⟩ (.int .i64 d) = W1 at *
    clear a0 a1 a2 f0 f1 f2 HS
    refine (of_b _ (HE.out.below B1) HO.out).mono ?_
    rintro e w2 ⟨rfl, hb⟩
    have B2 := Lib.hid (onward hb B1)
    replace x0 := stays hb x0
    replace x1 := stays hb x1
    replace x2 := stays hb x2
    clear hb B1
    go_wp2_with fail
    refine (first_b _ ((HE.out.below B2.out).alloc _) HF.out).mono ?_
    rintro e w3 ⟨rfl, hb⟩
    have B3 : Hid (Below w.heap.size w w3) := B2.out.trans ((below_box hb).mono B2.out.size)
    obtain ⟨y0, y1, y2⟩ := box3 hb
    replace x0 := stays (below_box hb) x0
    replace x1 := stays (below_box hb) x1
    replace x2 := stays (below_box hb) x2
    clear hb B2
    go_wp2_with fail
    refine (rfirst_b _ HF.out).mono ?_
    rintro e w4 ⟨rfl, hb⟩
    have B4 : Hid (Below w.heap.size w w4) := onward hb B3.out
    replace x0 := stays hb x0
    replace x1 := stays hb x1
    replace x2 := stays hb x2
    replace y0 := stays hb y0
    replace y1 := stays hb y1
    replace y2 := stays hb y2
    clear hb B3
    go_wp2_with fail
    refine (clamp_no _ _ _ (HE.out.below B4.out).lens HC.out).mono ?_
    rintro e w5 ⟨rfl, hb⟩
    have B5 : Hid (Below w.heap.size w w5) := onward hb B4.out
    replace x0 := stays hb x0
    replace x1 := stays hb x1
    replace x2 := stays hb x2
    replace y0 := stays hb y0
    replace y1 := stays hb y1
    replace y2 := stays hb y2
    clear hb B4
    go_wp2_with fail
    refine (rlength_v _ HL.out).mono ?_
    rintro e w6 ⟨rfl, hb⟩
    have B6 : Hid (Below w.heap.size w w6) := B5.out.trans ((below_box hb).mono B5.out.size)
    obtain ⟨z0, z1, z2⟩ := box3 hb
    replace x0 := stays (below_box hb) x0
    replace x1 := stays (below_box hb) x1
    replace x2 := stays (below_box hb) x2
    replace y0 := stays (below_box hb) y0
    replace y1 := stays (below_box hb) y1
    replace y2 := stays (below_box hb) y2
    clear hb B5
    go_wp2_with fail
    refine (length_v _ (HE.out.below B6.out) HL.out).mono ?_
    rintro e w7 ⟨rfl, hb⟩
    have B7 : Hid (Below w.heap.size w w7) := onward hb B6.out
    replace z0 := stays hb z0
    replace z1 := stays hb z1
    replace z2 := stays hb z2
    clear hb B6 x0 x1 x2 y0 y1 y2
    go_wp2_with fail
    refine (goes_any _ (HE.out.below B7.out)).mono ?_
    rintro e w8 ⟨rfl, hb⟩
    have B8 : Hid (Below w.heap.size w w8) := onward hb B7.out
    clear hb B7 z0 z1 z2
    go_wp2
    go_ret
    exact ⟨rfl, B8.out⟩
  · have HC := Lib.hid (Int.not_lt.1 c1)
    have HG := Lib.hid (And.intro g1 g2)
    have HQ := Lib.hid hq
    clear hq
    have hm1 : IntKind.i64.wrap (month % 12 + 1) = month % 12 + 1 := IntWalk.i64_in _ (by omega)
    obtain ⟨r1, r2⟩ := hr
    go_enter Tryd.func10, Tryd.ntmps10
    go_wp2_with fail
    refine (rof_b _ HO.out r1 r2).mono ?_
    rintro e w1 ⟨rfl, hb⟩
    obtain ⟨a0, a1, a2⟩ := box3 hb
    obtain ⟨f0, f1, f2⟩ := box3f hb
    have HS := Lib.hid (fun x y z => set3 (x := x) (y := y) (z := z) hb)
    clear r1 r2 hb
    go_wp2_with fail
    obtain ⟨B1, x0, x1, x2⟩ := HS.out (.int .i64 y) (.int .i64 m) (.int .i64 d)
    generalize ((w1.setCell ⟨w.heap.size, 0, none⟩ (.int .i64 y)).setCell ⟨w.heap.size, 1, none⟩ (.int .i64 m)).setCell ⟨w.heap.size, 2, none⟩ (.int .i64 d) = W1 at *
    clear a0 a1 a2 f0 f1 f2 HS
    refine (of_b _ (HE.out.below B1) HO.out).mono ?_
    rintro e w2 ⟨rfl, hb⟩
    have B2 := Lib.hid (onward hb B1)
    replace x0 := stays hb x0
    replace x1 := stays hb x1
    replace x2 := stays hb x2
    clear hb B1
    go_wp2_with fail
    refine (first_b _ ((HE.out.below B2.out).alloc _) HF.out).mono ?_
    rintro e w3 ⟨rfl, hb⟩
    have B3 : Hid (Below w.heap.size w w3) := B2.out.trans ((below_box hb).mono B2.out.size)
    obtain ⟨y0, y1, y2⟩ := box3 hb
    replace x0 := stays (below_box hb) x0
    replace x1 := stays (below_box hb) x1
    replace x2 := stays (below_box hb) x2
    clear hb B2
    go_wp2_with fail
    refine (rfirst_b _ HF.out).mono ?_
    rintro e w4 ⟨rfl, hb⟩
    have B4 : Hid (Below w.heap.size w w4) := onward hb B3.out
    replace x0 := stays hb x0
    replace x1 := stays hb x1
    replace x2 := stays hb x2
    replace y0 := stays hb y0
    replace y1 := stays hb y1
    replace y2 := stays hb y2
    clear hb B3
    go_wp2_with fail
    refine (clamp_q _ (HE.out.below B4.out) HG.out.1 HG.out.2 HC.out HL.out HQ.out).mono ?_
    rintro e w5 ⟨rfl, hb⟩
    have B5 : Hid (Below w.heap.size w w5) := onward hb B4.out
    replace x0 := stays hb x0
    replace x1 := stays hb x1
    replace x2 := stays hb x2
    replace y0 := stays hb y0
    replace y1 := stays hb y1
    replace y2 := stays hb y2
    clear hb B4
    go_wp2_with fail
    refine (rlength_v _ HL.out).mono ?_
    rintro e w6 ⟨rfl, hb⟩
    have B6 : Hid (Below w.heap.size w w6) := B5.out.trans ((below_box hb).mono B5.out.size)
    obtain ⟨z0, z1, z2⟩ := box3 hb
    replace x0 := stays (below_box hb) x0
    replace x1 := stays (below_box hb) x1
    replace x2 := stays (below_box hb) x2
    replace y0 := stays (below_box hb) y0
    replace y1 := stays (below_box hb) y1
    replace y2 := stays (below_box hb) y2
    clear hb B5
    go_wp2_with fail
    refine (length_v _ (HE.out.below B6.out) HL.out).mono ?_
    rintro e w7 ⟨rfl, hb⟩
    have B7 : Hid (Below w.heap.size w w7) := onward hb B6.out
    replace z0 := stays hb z0
    replace z1 := stays hb z1
    replace z2 := stays hb z2
    clear hb B6 x0 x1 x2 y0 y1 y2
    go_wp2_with fail
    refine (goes_any _ (HE.out.below B7.out)).mono ?_
    rintro e w8 ⟨rfl, hb⟩
    have B8 : Hid (Below w.heap.size w w8) := onward hb B7.out
    clear hb B7 z0 z1 z2
    go_wp2
    go_ret
    exact ⟨rfl, B8.out⟩
  · have HC := Lib.hid (Int.not_lt.1 c1)
    have HG := Lib.hid (And.intro g1 g2)
    have HQ := Lib.hid hq
    clear hq
    have hm1 : IntKind.i64.wrap (month % 12 + 1) = month % 12 + 1 := IntWalk.i64_in _ (by omega)
    obtain ⟨r1, r2⟩ := hr
    go_enter Tryd.func10, Tryd.ntmps10
    go_wp2_with fail
    refine (rof_b _ HO.out r1 r2).mono ?_
    rintro e w1 ⟨rfl, hb⟩
    obtain ⟨a0, a1, a2⟩ := box3 hb
    obtain ⟨f0, f1, f2⟩ := box3f hb
    have HS := Lib.hid (fun x y z => set3 (x := x) (y := y) (z := z) hb)
    clear r1 r2 hb
    go_wp2_with fail
    obtain ⟨B1, x0, x1, x2⟩ := HS.out (.int .i64 y) (.int .i64 m) (.int .i64 d)
    generalize ((w1.setCell ⟨w.heap.size, 0, none⟩ (.int .i64 y)).setCell ⟨w.heap.size, 1, none⟩ (.int .i64 m)).setCell ⟨w.heap.size, 2, none⟩ (.int .i64 d) = W1 at *
    clear a0 a1 a2 f0 f1 f2 HS
    refine (of_b _ (HE.out.below B1) HO.out).mono ?_
    rintro e w2 ⟨rfl, hb⟩
    have B2 := Lib.hid (onward hb B1)
    replace x0 := stays hb x0
    replace x1 := stays hb x1
    replace x2 := stays hb x2
    clear hb B1
    go_wp2_with fail
    refine (first_b _ ((HE.out.below B2.out).alloc _) HF.out).mono ?_
    rintro e w3 ⟨rfl, hb⟩
    have B3 : Hid (Below w.heap.size w w3) := B2.out.trans ((below_box hb).mono B2.out.size)
    obtain ⟨y0, y1, y2⟩ := box3 hb
    replace x0 := stays (below_box hb) x0
    replace x1 := stays (below_box hb) x1
    replace x2 := stays (below_box hb) x2
    clear hb B2
    go_wp2_with fail
    refine (rfirst_b _ HF.out).mono ?_
    rintro e w4 ⟨rfl, hb⟩
    have B4 : Hid (Below w.heap.size w w4) := onward hb B3.out
    replace x0 := stays hb x0
    replace x1 := stays hb x1
    replace x2 := stays hb x2
    replace y0 := stays hb y0
    replace y1 := stays hb y1
    replace y2 := stays hb y2
    clear hb B3
    go_wp2_with fail
    refine (clamp_q _ (HE.out.below B4.out) HG.out.1 HG.out.2 HC.out HL.out HQ.out).mono ?_
    rintro e w5 ⟨rfl, hb⟩
    have B5 : Hid (Below w.heap.size w w5) := onward hb B4.out
    replace x0 := stays hb x0
    replace x1 := stays hb x1
    replace x2 := stays hb x2
    replace y0 := stays hb y0
    replace y1 := stays hb y1
    replace y2 := stays hb y2
    clear hb B4
    go_wp2_with fail
    refine (rlength_v _ HL.out).mono ?_
    rintro e w6 ⟨rfl, hb⟩
    have B6 : Hid (Below w.heap.size w w6) := B5.out.trans ((below_box hb).mono B5.out.size)
    obtain ⟨z0, z1, z2⟩ := box3 hb
    replace x0 := stays (below_box hb) x0
    replace x1 := stays (below_box hb) x1
    replace x2 := stays (below_box hb) x2
    replace y0 := stays (below_box hb) y0
    replace y1 := stays (below_box hb) y1
    replace y2 := stays (below_box hb) y2
    clear hb B5
    go_wp2_with fail
    refine (length_v _ (HE.out.below B6.out) HL.out).mono ?_
    rintro e w7 ⟨rfl, hb⟩
    have B7 : Hid (Below w.heap.size w w7) := onward hb B6.out
    replace z0 := stays hb z0
    replace z1 := stays hb z1
    replace z2 := stays hb z2
    clear hb B6 x0 x1 x2 y0 y1 y2
    go_wp2_with fail
    refine (goes_any _ (HE.out.below B7.out)).mono ?_
    rintro e w8 ⟨rfl, hb⟩
    have B8 : Hid (Below w.heap.size w w8) := onward hb B7.out
    clear hb B7 z0 z1 z2
    go_wp2
    go_ret
    exact ⟨rfl, B8.out⟩
set_option maxHeartbeats 4000000 in
set_option maxRecDepth 10000000 in
theorem num_lo {day month n y m d er v fe l : Int} (w : World) (HE : Hid (Env w)) (HO : Hid (OfV day y m d er)) (HF : Hid (FstV month v fe)) (HL : Hid (lenM month = l)) (hlb : 0 ≤ l ∧ l ≤ 32) (hr : day < -800000) : Calls Tryd.prog 10 #[.int .i64 day, .int .i64 month, .int .i64 n] w (Fine w) := by
  obtain ⟨rfl, rfl, rfl, rfl⟩ : y = 0 ∧ m = 0 ∧ d = 0 ∧ er = 1 := by
    rcases HO.out with ⟨_, h1, h2, h3, h4⟩ | ⟨h1, h2, _⟩
    · exact ⟨h1, h2, h3, h4⟩
    · have := numD_bd h1; omega
  have hr2 : ¬ -800000 ≤ day := by omega
  rcases lenC month n HL.out with ⟨rfl, hc⟩ | ⟨hz, c1, hc⟩ | ⟨hz, c1, g1, g2, c2, hq⟩ | ⟨hz, c1, c2, g1, g2, hq⟩
  · have HC := Lib.hid hc
    clear hc
    go_enter Tryd.func10, Tryd.ntmps10
    go_wp2_with fail
    clear hr hr2
    have B1 : Below w.heap.size w (w.alloc (.cells #[.int .i64 0, .int .i64 0, .int .i64 0] 46)) := (Below.refl _ _).alloc (Nat.le_refl _) _
    obtain ⟨x0, x1, x2⟩ := box3 (Below.refl (w.alloc (.cells #[.int .i64 0, .int .i64 0, .int .i64 0] 46)).heap.size (w.alloc (.cells #[.int .i64 0, .int .i64 0, .int .i64 0] 46)))
    generalize w.alloc (.cells #[.int .i64 0, .int .i64 0, .int .i64 0] 46) = W1 at *
    refine (of_b _ (HE.out.below B1) HO.out).mono ?_
    rintro e w2 ⟨rfl, hb⟩
    have B2 := Lib.hid (onward hb B1)
    replace x0 := stays hb x0
    replace x1 := stays hb x1
    replace x2 := stays hb x2
    clear hb B1
    go_wp2_with fail
    refine (first_b _ ((HE.out.below B2.out).alloc _) HF.out).mono ?_
    rintro e w3 ⟨rfl, hb⟩
    have B3 : Hid (Below w.heap.size w w3) := B2.out.trans ((below_box hb).mono B2.out.size)
    obtain ⟨y0, y1, y2⟩ := box3 hb
    replace x0 := stays (below_box hb) x0
    replace x1 := stays (below_box hb) x1
    replace x2 := stays (below_box hb) x2
    clear hb B2
    go_wp2_with fail
    refine (rfirst_b _ HF.out).mono ?_
    rintro e w4 ⟨rfl, hb⟩
    have B4 : Hid (Below w.heap.size w w4) := onward hb B3.out
    replace x0 := stays hb x0
    replace x1 := stays hb x1
    replace x2 := stays hb x2
    replace y0 := stays hb y0
    replace y1 := stays hb y1
    replace y2 := stays hb y2
    clear hb B3
    go_wp2_with fail
    refine (clamp_no _ _ _ (HE.out.below B4.out).lens HC.out).mono ?_
    rintro e w5 ⟨rfl, hb⟩
    have B5 : Hid (Below w.heap.size w w5) := onward hb B4.out
    replace x0 := stays hb x0
    replace x1 := stays hb x1
    replace x2 := stays hb x2
    replace y0 := stays hb y0
    replace y1 := stays hb y1
    replace y2 := stays hb y2
    clear hb B4
    go_wp2_with fail
    refine (rlength_v _ HL.out).mono ?_
    rintro e w6 ⟨rfl, hb⟩
    have B6 : Hid (Below w.heap.size w w6) := B5.out.trans ((below_box hb).mono B5.out.size)
    obtain ⟨z0, z1, z2⟩ := box3 hb
    replace x0 := stays (below_box hb) x0
    replace x1 := stays (below_box hb) x1
    replace x2 := stays (below_box hb) x2
    replace y0 := stays (below_box hb) y0
    replace y1 := stays (below_box hb) y1
    replace y2 := stays (below_box hb) y2
    clear hb B5
    go_wp2_with fail
    refine (length_v _ (HE.out.below B6.out) HL.out).mono ?_
    rintro e w7 ⟨rfl, hb⟩
    have B7 : Hid (Below w.heap.size w w7) := onward hb B6.out
    replace z0 := stays hb z0
    replace z1 := stays hb z1
    replace z2 := stays hb z2
    clear hb B6 x0 x1 x2 y0 y1 y2
    go_wp2_with fail
    refine (goes_any _ (HE.out.below B7.out)).mono ?_
    rintro e w8 ⟨rfl, hb⟩
    have B8 : Hid (Below w.heap.size w w8) := onward hb B7.out
    clear hb B7 z0 z1 z2
    go_wp2
    go_ret
    exact ⟨rfl, B8.out⟩
  · have HC := Lib.hid hc
    clear hc
    go_enter Tryd.func10, Tryd.ntmps10
    go_wp2_with fail
    clear hr hr2
    have B1 : Below w.heap.size w (w.alloc (.cells #[.int .i64 0, .int .i64 0, .int .i64 0] 46)) := (Below.refl _ _).alloc (Nat.le_refl _) _
    obtain ⟨x0, x1, x2⟩ := box3 (Below.refl (w.alloc (.cells #[.int .i64 0, .int .i64 0, .int .i64 0] 46)).heap.size (w.alloc (.cells #[.int .i64 0, .int .i64 0, .int .i64 0] 46)))
    generalize w.alloc (.cells #[.int .i64 0, .int .i64 0, .int .i64 0] 46) = W1 at *
    refine (of_b _ (HE.out.below B1) HO.out).mono ?_
    rintro e w2 ⟨rfl, hb⟩
    have B2 := Lib.hid (onward hb B1)
    replace x0 := stays hb x0
    replace x1 := stays hb x1
    replace x2 := stays hb x2
    clear hb B1
    go_wp2_with fail
    refine (first_b _ ((HE.out.below B2.out).alloc _) HF.out).mono ?_
    rintro e w3 ⟨rfl, hb⟩
    have B3 : Hid (Below w.heap.size w w3) := B2.out.trans ((below_box hb).mono B2.out.size)
    obtain ⟨y0, y1, y2⟩ := box3 hb
    replace x0 := stays (below_box hb) x0
    replace x1 := stays (below_box hb) x1
    replace x2 := stays (below_box hb) x2
    clear hb B2
    go_wp2_with fail
    refine (rfirst_b _ HF.out).mono ?_
    rintro e w4 ⟨rfl, hb⟩
    have B4 : Hid (Below w.heap.size w w4) := onward hb B3.out
    replace x0 := stays hb x0
    replace x1 := stays hb x1
    replace x2 := stays hb x2
    replace y0 := stays hb y0
    replace y1 := stays hb y1
    replace y2 := stays hb y2
    clear hb B3
    go_wp2_with fail
    refine (clamp_no _ _ _ (HE.out.below B4.out).lens HC.out).mono ?_
    rintro e w5 ⟨rfl, hb⟩
    have B5 : Hid (Below w.heap.size w w5) := onward hb B4.out
    replace x0 := stays hb x0
    replace x1 := stays hb x1
    replace x2 := stays hb x2
    replace y0 := stays hb y0
    replace y1 := stays hb y1
    replace y2 := stays hb y2
    clear hb B4
    go_wp2_with fail
    refine (rlength_v _ HL.out).mono ?_
    rintro e w6 ⟨rfl, hb⟩
    have B6 : Hid (Below w.heap.size w w6) := B5.out.trans ((below_box hb).mono B5.out.size)
    obtain ⟨z0, z1, z2⟩ := box3 hb
    replace x0 := stays (below_box hb) x0
    replace x1 := stays (below_box hb) x1
    replace x2 := stays (below_box hb) x2
    replace y0 := stays (below_box hb) y0
    replace y1 := stays (below_box hb) y1
    replace y2 := stays (below_box hb) y2
    clear hb B5
    go_wp2_with fail
    refine (length_v _ (HE.out.below B6.out) HL.out).mono ?_
    rintro e w7 ⟨rfl, hb⟩
    have B7 : Hid (Below w.heap.size w w7) := onward hb B6.out
    replace z0 := stays hb z0
    replace z1 := stays hb z1
    replace z2 := stays hb z2
    clear hb B6 x0 x1 x2 y0 y1 y2
    go_wp2_with fail
    refine (goes_any _ (HE.out.below B7.out)).mono ?_
    rintro e w8 ⟨rfl, hb⟩
    have B8 : Hid (Below w.heap.size w w8) := onward hb B7.out
    clear hb B7 z0 z1 z2
    go_wp2
    go_ret
    exact ⟨rfl, B8.out⟩
  · have HC := Lib.hid (Int.not_lt.1 c1)
    have HG := Lib.hid (And.intro g1 g2)
    have HQ := Lib.hid hq
    clear hq
    have hm1 : IntKind.i64.wrap (month % 12 + 1) = month % 12 + 1 := IntWalk.i64_in _ (by omega)
    go_enter Tryd.func10, Tryd.ntmps10
    go_wp2_with fail
    clear hr hr2
    have B1 : Below w.heap.size w (w.alloc (.cells #[.int .i64 0, .int .i64 0, .int .i64 0] 46)) := (Below.refl _ _).alloc (Nat.le_refl _) _
    obtain ⟨x0, x1, x2⟩ := box3 (Below.refl (w.alloc (.cells #[.int .i64 0, .int .i64 0, .int .i64 0] 46)).heap.size (w.alloc (.cells #[.int .i64 0, .int .i64 0, .int .i64 0] 46)))
    generalize w.alloc (.cells #[.int .i64 0, .int .i64 0, .int .i64 0] 46) = W1 at *
    refine (of_b _ (HE.out.below B1) HO.out).mono ?_
    rintro e w2 ⟨rfl, hb⟩
    have B2 := Lib.hid (onward hb B1)
    replace x0 := stays hb x0
    replace x1 := stays hb x1
    replace x2 := stays hb x2
    clear hb B1
    go_wp2_with fail
    refine (first_b _ ((HE.out.below B2.out).alloc _) HF.out).mono ?_
    rintro e w3 ⟨rfl, hb⟩
    have B3 : Hid (Below w.heap.size w w3) := B2.out.trans ((below_box hb).mono B2.out.size)
    obtain ⟨y0, y1, y2⟩ := box3 hb
    replace x0 := stays (below_box hb) x0
    replace x1 := stays (below_box hb) x1
    replace x2 := stays (below_box hb) x2
    clear hb B2
    go_wp2_with fail
    refine (rfirst_b _ HF.out).mono ?_
    rintro e w4 ⟨rfl, hb⟩
    have B4 : Hid (Below w.heap.size w w4) := onward hb B3.out
    replace x0 := stays hb x0
    replace x1 := stays hb x1
    replace x2 := stays hb x2
    replace y0 := stays hb y0
    replace y1 := stays hb y1
    replace y2 := stays hb y2
    clear hb B3
    go_wp2_with fail
    refine (clamp_q _ (HE.out.below B4.out) HG.out.1 HG.out.2 HC.out HL.out HQ.out).mono ?_
    rintro e w5 ⟨rfl, hb⟩
    have B5 : Hid (Below w.heap.size w w5) := onward hb B4.out
    replace x0 := stays hb x0
    replace x1 := stays hb x1
    replace x2 := stays hb x2
    replace y0 := stays hb y0
    replace y1 := stays hb y1
    replace y2 := stays hb y2
    clear hb B4
    go_wp2_with fail
    refine (rlength_v _ HL.out).mono ?_
    rintro e w6 ⟨rfl, hb⟩
    have B6 : Hid (Below w.heap.size w w6) := B5.out.trans ((below_box hb).mono B5.out.size)
    obtain ⟨z0, z1, z2⟩ := box3 hb
    replace x0 := stays (below_box hb) x0
    replace x1 := stays (below_box hb) x1
    replace x2 := stays (below_box hb) x2
    replace y0 := stays (below_box hb) y0
    replace y1 := stays (below_box hb) y1
    replace y2 := stays (below_box hb) y2
    clear hb B5
    go_wp2_with fail
    refine (length_v _ (HE.out.below B6.out) HL.out).mono ?_
    rintro e w7 ⟨rfl, hb⟩
    have B7 : Hid (Below w.heap.size w w7) := onward hb B6.out
    replace z0 := stays hb z0
    replace z1 := stays hb z1
    replace z2 := stays hb z2
    clear hb B6 x0 x1 x2 y0 y1 y2
    go_wp2_with fail
    refine (goes_any _ (HE.out.below B7.out)).mono ?_
    rintro e w8 ⟨rfl, hb⟩
    have B8 : Hid (Below w.heap.size w w8) := onward hb B7.out
    clear hb B7 z0 z1 z2
    go_wp2
    go_ret
    exact ⟨rfl, B8.out⟩
  · have HC := Lib.hid (Int.not_lt.1 c1)
    have HG := Lib.hid (And.intro g1 g2)
    have HQ := Lib.hid hq
    clear hq
    have hm1 : IntKind.i64.wrap (month % 12 + 1) = month % 12 + 1 := IntWalk.i64_in _ (by omega)
    go_enter Tryd.func10, Tryd.ntmps10
    go_wp2_with fail
    clear hr hr2
    have B1 : Below w.heap.size w (w.alloc (.cells #[.int .i64 0, .int .i64 0, .int .i64 0] 46)) := (Below.refl _ _).alloc (Nat.le_refl _) _
    obtain ⟨x0, x1, x2⟩ := box3 (Below.refl (w.alloc (.cells #[.int .i64 0, .int .i64 0, .int .i64 0] 46)).heap.size (w.alloc (.cells #[.int .i64 0, .int .i64 0, .int .i64 0] 46)))
    generalize w.alloc (.cells #[.int .i64 0, .int .i64 0, .int .i64 0] 46) = W1 at *
    refine (of_b _ (HE.out.below B1) HO.out).mono ?_
    rintro e w2 ⟨rfl, hb⟩
    have B2 := Lib.hid (onward hb B1)
    replace x0 := stays hb x0
    replace x1 := stays hb x1
    replace x2 := stays hb x2
    clear hb B1
    go_wp2_with fail
    refine (first_b _ ((HE.out.below B2.out).alloc _) HF.out).mono ?_
    rintro e w3 ⟨rfl, hb⟩
    have B3 : Hid (Below w.heap.size w w3) := B2.out.trans ((below_box hb).mono B2.out.size)
    obtain ⟨y0, y1, y2⟩ := box3 hb
    replace x0 := stays (below_box hb) x0
    replace x1 := stays (below_box hb) x1
    replace x2 := stays (below_box hb) x2
    clear hb B2
    go_wp2_with fail
    refine (rfirst_b _ HF.out).mono ?_
    rintro e w4 ⟨rfl, hb⟩
    have B4 : Hid (Below w.heap.size w w4) := onward hb B3.out
    replace x0 := stays hb x0
    replace x1 := stays hb x1
    replace x2 := stays hb x2
    replace y0 := stays hb y0
    replace y1 := stays hb y1
    replace y2 := stays hb y2
    clear hb B3
    go_wp2_with fail
    refine (clamp_q _ (HE.out.below B4.out) HG.out.1 HG.out.2 HC.out HL.out HQ.out).mono ?_
    rintro e w5 ⟨rfl, hb⟩
    have B5 : Hid (Below w.heap.size w w5) := onward hb B4.out
    replace x0 := stays hb x0
    replace x1 := stays hb x1
    replace x2 := stays hb x2
    replace y0 := stays hb y0
    replace y1 := stays hb y1
    replace y2 := stays hb y2
    clear hb B4
    go_wp2_with fail
    refine (rlength_v _ HL.out).mono ?_
    rintro e w6 ⟨rfl, hb⟩
    have B6 : Hid (Below w.heap.size w w6) := B5.out.trans ((below_box hb).mono B5.out.size)
    obtain ⟨z0, z1, z2⟩ := box3 hb
    replace x0 := stays (below_box hb) x0
    replace x1 := stays (below_box hb) x1
    replace x2 := stays (below_box hb) x2
    replace y0 := stays (below_box hb) y0
    replace y1 := stays (below_box hb) y1
    replace y2 := stays (below_box hb) y2
    clear hb B5
    go_wp2_with fail
    refine (length_v _ (HE.out.below B6.out) HL.out).mono ?_
    rintro e w7 ⟨rfl, hb⟩
    have B7 : Hid (Below w.heap.size w w7) := onward hb B6.out
    replace z0 := stays hb z0
    replace z1 := stays hb z1
    replace z2 := stays hb z2
    clear hb B6 x0 x1 x2 y0 y1 y2
    go_wp2_with fail
    refine (goes_any _ (HE.out.below B7.out)).mono ?_
    rintro e w8 ⟨rfl, hb⟩
    have B8 : Hid (Below w.heap.size w w8) := onward hb B7.out
    clear hb B7 z0 z1 z2
    go_wp2
    go_ret
    exact ⟨rfl, B8.out⟩
set_option maxHeartbeats 4000000 in
set_option maxRecDepth 10000000 in
theorem num_hi {day month n y m d er v fe l : Int} (w : World) (HE : Hid (Env w)) (HO : Hid (OfV day y m d er)) (HF : Hid (FstV month v fe)) (HL : Hid (lenM month = l)) (hlb : 0 ≤ l ∧ l ≤ 32) (hr : 3000000 < day) : Calls Tryd.prog 10 #[.int .i64 day, .int .i64 month, .int .i64 n] w (Fine w) := by
  obtain ⟨rfl, rfl, rfl, rfl⟩ : y = 0 ∧ m = 0 ∧ d = 0 ∧ er = 1 := by
    rcases HO.out with ⟨_, h1, h2, h3, h4⟩ | ⟨h1, h2, _⟩
    · exact ⟨h1, h2, h3, h4⟩
    · have := numD_bd h1; omega
  have hr2 : -800000 ≤ day := by omega
  rcases lenC month n HL.out with ⟨rfl, hc⟩ | ⟨hz, c1, hc⟩ | ⟨hz, c1, g1, g2, c2, hq⟩ | ⟨hz, c1, c2, g1, g2, hq⟩
  · have HC := Lib.hid hc
    clear hc
    go_enter Tryd.func10, Tryd.ntmps10
    go_wp2_with fail
    clear hr hr2
    have B1 : Below w.heap.size w (w.alloc (.cells #[.int .i64 0, .int .i64 0, .int .i64 0] 46)) := (Below.refl _ _).alloc (Nat.le_refl _) _
    obtain ⟨x0, x1, x2⟩ := box3 (Below.refl (w.alloc (.cells #[.int .i64 0, .int .i64 0, .int .i64 0] 46)).heap.size (w.alloc (.cells #[.int .i64 0, .int .i64 0, .int .i64 0] 46)))
    generalize w.alloc (.cells #[.int .i64 0, .int .i64 0, .int .i64 0] 46) = W1 at *
    refine (of_b _ (HE.out.below B1) HO.out).mono ?_
    rintro e w2 ⟨rfl, hb⟩
    have B2 := Lib.hid (onward hb B1)
    replace x0 := stays hb x0
    replace x1 := stays hb x1
    replace x2 := stays hb x2
    clear hb B1
    go_wp2_with fail
    refine (first_b _ ((HE.out.below B2.out).alloc _) HF.out).mono ?_
    rintro e w3 ⟨rfl, hb⟩
    have B3 : Hid (Below w.heap.size w w3) := B2.out.trans ((below_box hb).mono B2.out.size)
    obtain ⟨y0, y1, y2⟩ := box3 hb
    replace x0 := stays (below_box hb) x0
    replace x1 := stays (below_box hb) x1
    replace x2 := stays (below_box hb) x2
    clear hb B2
    go_wp2_with fail
    refine (rfirst_b _ HF.out).mono ?_
    rintro e w4 ⟨rfl, hb⟩
    have B4 : Hid (Below w.heap.size w w4) := onward hb B3.out
    replace x0 := stays hb x0
    replace x1 := stays hb x1
    replace x2 := stays hb x2
    replace y0 := stays hb y0
    replace y1 := stays hb y1
    replace y2 := stays hb y2
    clear hb B3
    go_wp2_with fail
    refine (clamp_no _ _ _ (HE.out.below B4.out).lens HC.out).mono ?_
    rintro e w5 ⟨rfl, hb⟩
    have B5 : Hid (Below w.heap.size w w5) := onward hb B4.out
    replace x0 := stays hb x0
    replace x1 := stays hb x1
    replace x2 := stays hb x2
    replace y0 := stays hb y0
    replace y1 := stays hb y1
    replace y2 := stays hb y2
    clear hb B4
    go_wp2_with fail
    refine (rlength_v _ HL.out).mono ?_
    rintro e w6 ⟨rfl, hb⟩
    have B6 : Hid (Below w.heap.size w w6) := B5.out.trans ((below_box hb).mono B5.out.size)
    obtain ⟨z0, z1, z2⟩ := box3 hb
    replace x0 := stays (below_box hb) x0
    replace x1 := stays (below_box hb) x1
    replace x2 := stays (below_box hb) x2
    replace y0 := stays (below_box hb) y0
    replace y1 := stays (below_box hb) y1
    replace y2 := stays (below_box hb) y2
    clear hb B5
    go_wp2_with fail
    refine (length_v _ (HE.out.below B6.out) HL.out).mono ?_
    rintro e w7 ⟨rfl, hb⟩
    have B7 : Hid (Below w.heap.size w w7) := onward hb B6.out
    replace z0 := stays hb z0
    replace z1 := stays hb z1
    replace z2 := stays hb z2
    clear hb B6 x0 x1 x2 y0 y1 y2
    go_wp2_with fail
    refine (goes_any _ (HE.out.below B7.out)).mono ?_
    rintro e w8 ⟨rfl, hb⟩
    have B8 : Hid (Below w.heap.size w w8) := onward hb B7.out
    clear hb B7 z0 z1 z2
    go_wp2
    go_ret
    exact ⟨rfl, B8.out⟩
  · have HC := Lib.hid hc
    clear hc
    go_enter Tryd.func10, Tryd.ntmps10
    go_wp2_with fail
    clear hr hr2
    have B1 : Below w.heap.size w (w.alloc (.cells #[.int .i64 0, .int .i64 0, .int .i64 0] 46)) := (Below.refl _ _).alloc (Nat.le_refl _) _
    obtain ⟨x0, x1, x2⟩ := box3 (Below.refl (w.alloc (.cells #[.int .i64 0, .int .i64 0, .int .i64 0] 46)).heap.size (w.alloc (.cells #[.int .i64 0, .int .i64 0, .int .i64 0] 46)))
    generalize w.alloc (.cells #[.int .i64 0, .int .i64 0, .int .i64 0] 46) = W1 at *
    refine (of_b _ (HE.out.below B1) HO.out).mono ?_
    rintro e w2 ⟨rfl, hb⟩
    have B2 := Lib.hid (onward hb B1)
    replace x0 := stays hb x0
    replace x1 := stays hb x1
    replace x2 := stays hb x2
    clear hb B1
    go_wp2_with fail
    refine (first_b _ ((HE.out.below B2.out).alloc _) HF.out).mono ?_
    rintro e w3 ⟨rfl, hb⟩
    have B3 : Hid (Below w.heap.size w w3) := B2.out.trans ((below_box hb).mono B2.out.size)
    obtain ⟨y0, y1, y2⟩ := box3 hb
    replace x0 := stays (below_box hb) x0
    replace x1 := stays (below_box hb) x1
    replace x2 := stays (below_box hb) x2
    clear hb B2
    go_wp2_with fail
    refine (rfirst_b _ HF.out).mono ?_
    rintro e w4 ⟨rfl, hb⟩
    have B4 : Hid (Below w.heap.size w w4) := onward hb B3.out
    replace x0 := stays hb x0
    replace x1 := stays hb x1
    replace x2 := stays hb x2
    replace y0 := stays hb y0
    replace y1 := stays hb y1
    replace y2 := stays hb y2
    clear hb B3
    go_wp2_with fail
    refine (clamp_no _ _ _ (HE.out.below B4.out).lens HC.out).mono ?_
    rintro e w5 ⟨rfl, hb⟩
    have B5 : Hid (Below w.heap.size w w5) := onward hb B4.out
    replace x0 := stays hb x0
    replace x1 := stays hb x1
    replace x2 := stays hb x2
    replace y0 := stays hb y0
    replace y1 := stays hb y1
    replace y2 := stays hb y2
    clear hb B4
    go_wp2_with fail
    refine (rlength_v _ HL.out).mono ?_
    rintro e w6 ⟨rfl, hb⟩
    have B6 : Hid (Below w.heap.size w w6) := B5.out.trans ((below_box hb).mono B5.out.size)
    obtain ⟨z0, z1, z2⟩ := box3 hb
    replace x0 := stays (below_box hb) x0
    replace x1 := stays (below_box hb) x1
    replace x2 := stays (below_box hb) x2
    replace y0 := stays (below_box hb) y0
    replace y1 := stays (below_box hb) y1
    replace y2 := stays (below_box hb) y2
    clear hb B5
    go_wp2_with fail
    refine (length_v _ (HE.out.below B6.out) HL.out).mono ?_
    rintro e w7 ⟨rfl, hb⟩
    have B7 : Hid (Below w.heap.size w w7) := onward hb B6.out
    replace z0 := stays hb z0
    replace z1 := stays hb z1
    replace z2 := stays hb z2
    clear hb B6 x0 x1 x2 y0 y1 y2
    go_wp2_with fail
    refine (goes_any _ (HE.out.below B7.out)).mono ?_
    rintro e w8 ⟨rfl, hb⟩
    have B8 : Hid (Below w.heap.size w w8) := onward hb B7.out
    clear hb B7 z0 z1 z2
    go_wp2
    go_ret
    exact ⟨rfl, B8.out⟩
  · have HC := Lib.hid (Int.not_lt.1 c1)
    have HG := Lib.hid (And.intro g1 g2)
    have HQ := Lib.hid hq
    clear hq
    have hm1 : IntKind.i64.wrap (month % 12 + 1) = month % 12 + 1 := IntWalk.i64_in _ (by omega)
    go_enter Tryd.func10, Tryd.ntmps10
    go_wp2_with fail
    clear hr hr2
    have B1 : Below w.heap.size w (w.alloc (.cells #[.int .i64 0, .int .i64 0, .int .i64 0] 46)) := (Below.refl _ _).alloc (Nat.le_refl _) _
    obtain ⟨x0, x1, x2⟩ := box3 (Below.refl (w.alloc (.cells #[.int .i64 0, .int .i64 0, .int .i64 0] 46)).heap.size (w.alloc (.cells #[.int .i64 0, .int .i64 0, .int .i64 0] 46)))
    generalize w.alloc (.cells #[.int .i64 0, .int .i64 0, .int .i64 0] 46) = W1 at *
    refine (of_b _ (HE.out.below B1) HO.out).mono ?_
    rintro e w2 ⟨rfl, hb⟩
    have B2 := Lib.hid (onward hb B1)
    replace x0 := stays hb x0
    replace x1 := stays hb x1
    replace x2 := stays hb x2
    clear hb B1
    go_wp2_with fail
    refine (first_b _ ((HE.out.below B2.out).alloc _) HF.out).mono ?_
    rintro e w3 ⟨rfl, hb⟩
    have B3 : Hid (Below w.heap.size w w3) := B2.out.trans ((below_box hb).mono B2.out.size)
    obtain ⟨y0, y1, y2⟩ := box3 hb
    replace x0 := stays (below_box hb) x0
    replace x1 := stays (below_box hb) x1
    replace x2 := stays (below_box hb) x2
    clear hb B2
    go_wp2_with fail
    refine (rfirst_b _ HF.out).mono ?_
    rintro e w4 ⟨rfl, hb⟩
    have B4 : Hid (Below w.heap.size w w4) := onward hb B3.out
    replace x0 := stays hb x0
    replace x1 := stays hb x1
    replace x2 := stays hb x2
    replace y0 := stays hb y0
    replace y1 := stays hb y1
    replace y2 := stays hb y2
    clear hb B3
    go_wp2_with fail
    refine (clamp_q _ (HE.out.below B4.out) HG.out.1 HG.out.2 HC.out HL.out HQ.out).mono ?_
    rintro e w5 ⟨rfl, hb⟩
    have B5 : Hid (Below w.heap.size w w5) := onward hb B4.out
    replace x0 := stays hb x0
    replace x1 := stays hb x1
    replace x2 := stays hb x2
    replace y0 := stays hb y0
    replace y1 := stays hb y1
    replace y2 := stays hb y2
    clear hb B4
    go_wp2_with fail
    refine (rlength_v _ HL.out).mono ?_
    rintro e w6 ⟨rfl, hb⟩
    have B6 : Hid (Below w.heap.size w w6) := B5.out.trans ((below_box hb).mono B5.out.size)
    obtain ⟨z0, z1, z2⟩ := box3 hb
    replace x0 := stays (below_box hb) x0
    replace x1 := stays (below_box hb) x1
    replace x2 := stays (below_box hb) x2
    replace y0 := stays (below_box hb) y0
    replace y1 := stays (below_box hb) y1
    replace y2 := stays (below_box hb) y2
    clear hb B5
    go_wp2_with fail
    refine (length_v _ (HE.out.below B6.out) HL.out).mono ?_
    rintro e w7 ⟨rfl, hb⟩
    have B7 : Hid (Below w.heap.size w w7) := onward hb B6.out
    replace z0 := stays hb z0
    replace z1 := stays hb z1
    replace z2 := stays hb z2
    clear hb B6 x0 x1 x2 y0 y1 y2
    go_wp2_with fail
    refine (goes_any _ (HE.out.below B7.out)).mono ?_
    rintro e w8 ⟨rfl, hb⟩
    have B8 : Hid (Below w.heap.size w w8) := onward hb B7.out
    clear hb B7 z0 z1 z2
    go_wp2
    go_ret
    exact ⟨rfl, B8.out⟩
  · have HC := Lib.hid (Int.not_lt.1 c1)
    have HG := Lib.hid (And.intro g1 g2)
    have HQ := Lib.hid hq
    clear hq
    have hm1 : IntKind.i64.wrap (month % 12 + 1) = month % 12 + 1 := IntWalk.i64_in _ (by omega)
    go_enter Tryd.func10, Tryd.ntmps10
    go_wp2_with fail
    clear hr hr2
    have B1 : Below w.heap.size w (w.alloc (.cells #[.int .i64 0, .int .i64 0, .int .i64 0] 46)) := (Below.refl _ _).alloc (Nat.le_refl _) _
    obtain ⟨x0, x1, x2⟩ := box3 (Below.refl (w.alloc (.cells #[.int .i64 0, .int .i64 0, .int .i64 0] 46)).heap.size (w.alloc (.cells #[.int .i64 0, .int .i64 0, .int .i64 0] 46)))
    generalize w.alloc (.cells #[.int .i64 0, .int .i64 0, .int .i64 0] 46) = W1 at *
    refine (of_b _ (HE.out.below B1) HO.out).mono ?_
    rintro e w2 ⟨rfl, hb⟩
    have B2 := Lib.hid (onward hb B1)
    replace x0 := stays hb x0
    replace x1 := stays hb x1
    replace x2 := stays hb x2
    clear hb B1
    go_wp2_with fail
    refine (first_b _ ((HE.out.below B2.out).alloc _) HF.out).mono ?_
    rintro e w3 ⟨rfl, hb⟩
    have B3 : Hid (Below w.heap.size w w3) := B2.out.trans ((below_box hb).mono B2.out.size)
    obtain ⟨y0, y1, y2⟩ := box3 hb
    replace x0 := stays (below_box hb) x0
    replace x1 := stays (below_box hb) x1
    replace x2 := stays (below_box hb) x2
    clear hb B2
    go_wp2_with fail
    refine (rfirst_b _ HF.out).mono ?_
    rintro e w4 ⟨rfl, hb⟩
    have B4 : Hid (Below w.heap.size w w4) := onward hb B3.out
    replace x0 := stays hb x0
    replace x1 := stays hb x1
    replace x2 := stays hb x2
    replace y0 := stays hb y0
    replace y1 := stays hb y1
    replace y2 := stays hb y2
    clear hb B3
    go_wp2_with fail
    refine (clamp_q _ (HE.out.below B4.out) HG.out.1 HG.out.2 HC.out HL.out HQ.out).mono ?_
    rintro e w5 ⟨rfl, hb⟩
    have B5 : Hid (Below w.heap.size w w5) := onward hb B4.out
    replace x0 := stays hb x0
    replace x1 := stays hb x1
    replace x2 := stays hb x2
    replace y0 := stays hb y0
    replace y1 := stays hb y1
    replace y2 := stays hb y2
    clear hb B4
    go_wp2_with fail
    refine (rlength_v _ HL.out).mono ?_
    rintro e w6 ⟨rfl, hb⟩
    have B6 : Hid (Below w.heap.size w w6) := B5.out.trans ((below_box hb).mono B5.out.size)
    obtain ⟨z0, z1, z2⟩ := box3 hb
    replace x0 := stays (below_box hb) x0
    replace x1 := stays (below_box hb) x1
    replace x2 := stays (below_box hb) x2
    replace y0 := stays (below_box hb) y0
    replace y1 := stays (below_box hb) y1
    replace y2 := stays (below_box hb) y2
    clear hb B5
    go_wp2_with fail
    refine (length_v _ (HE.out.below B6.out) HL.out).mono ?_
    rintro e w7 ⟨rfl, hb⟩
    have B7 : Hid (Below w.heap.size w w7) := onward hb B6.out
    replace z0 := stays hb z0
    replace z1 := stays hb z1
    replace z2 := stays hb z2
    clear hb B6 x0 x1 x2 y0 y1 y2
    go_wp2_with fail
    refine (goes_any _ (HE.out.below B7.out)).mono ?_
    rintro e w8 ⟨rfl, hb⟩
    have B8 : Hid (Below w.heap.size w w8) := onward hb B7.out
    clear hb B7 z0 z1 z2
    go_wp2
    go_ret
    exact ⟨rfl, B8.out⟩
theorem numbers_any (day month n : Int) (w : World) (hE : Env w) : Calls Tryd.prog 10 #[.int .i64 day, .int .i64 month, .int .i64 n] w (Fine w) := by
  obtain ⟨y, m, d, er, ho⟩ := ofV_has day
  obtain ⟨v, fe, hf⟩ := fstV_has month
  have hb := lenM_le month
  by_cases h1 : day < -800000
  · exact num_lo w hE ho hf (Lib.hid rfl) hb h1
  · by_cases h2 : 3000000 < day
    · exact num_hi w hE ho hf (Lib.hid rfl) hb h2
    · exact num_in w hE ho hf (Lib.hid rfl) hb ⟨by omega, by omega⟩
end Go.Proofs.YtibjobmhjmdbhaaDoor
