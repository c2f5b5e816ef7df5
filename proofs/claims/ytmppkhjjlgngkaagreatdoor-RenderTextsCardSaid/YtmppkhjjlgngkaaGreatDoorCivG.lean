/- The calendar laws' own example (goes), and the laws that name no reference: their walks. -/
import Derived.Test.YtmppkhjjlgngkaaGreatDoorCivT
namespace Go.Proofs.YtmppkhjjlgngkaaGreatDoor
open Go.RowKit Civ
set_option linter.unusedVariables false
set_option linter.unusedSimpArgs false
theorem box3 {W W1 : World} {a b c : Value} {T : Nat} (hb : Below (W.alloc (.cells #[a, b, c] T)).heap.size (W.alloc (.cells #[a, b, c] T)) W1) : W1.cell? ⟨W.heap.size, 0, none⟩ = some a ∧ W1.cell? ⟨W.heap.size, 1, none⟩ = some b ∧ W1.cell? ⟨W.heap.size, 2, none⟩ = some c :=
  ⟨((bcell hb).1 _ _ (by simp)).trans (by simp), ((bcell hb).1 _ _ (by simp)).trans (by simp), ((bcell hb).1 _ _ (by simp)).trans (by simp)⟩
theorem leapDay : (⟨#[50, 48, 50, 52, 45, 48, 50, 45, 50, 57]⟩ : ByteArray).data.toList = txtL 2024 2 29 := by decide
theorem parse_leap (w : World) (hE : Env w) : Calls Tryz.prog 51 #[.string ⟨#[50, 48, 50, 52, 45, 48, 50, 45, 50, 57]⟩] w fun e w' => e = .returned (.tuple #[.agg #[.int .i64 2024, .int .i64 2, .int .i64 29], .int .i64 0]) ∧ Below w.heap.size w w' :=
  (parse_any _ w hE).mono fun e w' ⟨hb, h⟩ => by
    rcases h with ⟨y, m, d, hv, hn, he⟩ | ⟨h, _⟩
    · obtain ⟨rfl, rfl, rfl⟩ := txtL_inj hv (show Vld 2024 2 29 by decide) (hn.symm.trans leapDay)
      exact ⟨he, hb⟩
    · exact absurd leapDay (h 2024 2 29 (by decide))
theorem month_yes {y m d : Int} (w : World) (hL : Lens w) (hv : Vld y m d) : Calls Tryz.prog 52 #[.agg #[.int .i64 y, .int .i64 m, .int .i64 d]] w fun e w' => e = .returned (.int .i64 (12 * y + m - 1)) ∧ Below w.heap.size w w' :=
  (month_any y m d w hL).mono fun e w' ⟨he, hb⟩ => ⟨by rw [he, if_pos (vldB_t.2 hv)], hb⟩
theorem length_b (m : Int) (w : World) (hL : Lens w) : Calls Tryz.prog 21 #[.int .i64 m] w fun e w' => e = .returned (.int .i64 (lenM m)) ∧ Below w.heap.size w w' :=
  (length_any m w hL).mono fun e w' ⟨he, hw⟩ => ⟨he, hw ▸ Below.refl _ _⟩
theorem next_date {y m d y' m' d' : Int} (h : Vld y m d) (h' : Vld y' m' d') (e : numD y' m' d' = numD y m d + 1) :
    (d < lenM (12 * y + m - 1) ∧ y' = y ∧ m' = m ∧ d' = d + 1) ∨ (d = lenM (12 * y + m - 1) ∧ d' = 1 ∧ 12 * y' + m' - 1 = 12 * y + m - 1 + 1) := by
  have h0 := h
  obtain ⟨h1, h2, h3, h4, h5, h6⟩ := h
  by_cases c : d < lenM (12 * y + m - 1)
  · obtain ⟨a, b, c'⟩ := numD_inj h' (show Vld y m (d + 1) from ⟨h1, h2, h3, h4, by omega, by omega⟩) (by rw [e]; unfold numD; omega)
    exact .inl ⟨c, a, b, c'⟩
  · have hs := firstM_succ (12 * y + m - 1) (by omega) (by omega)
    have hb := numD_bd h'
    by_cases hz : 12 * y + m - 1 + 1 = 120000
    · exfalso
      rw [hz, show firstM 120000 = 2932897 from by decide] at hs
      unfold numD at *
      omega
    · obtain ⟨p, q, hq1, hq2, hp1, hp2, hpq⟩ : ∃ p q : Int, 1 ≤ q ∧ q ≤ 12 ∧ 1 ≤ p ∧ p ≤ 9999 ∧ 12 * p + q - 1 = 12 * y + m - 1 + 1 := ⟨(12 * y + m) / 12, (12 * y + m) % 12 + 1, by omega, by omega, by omega, by omega, by omega⟩
      have hl := lenM_bd (12 * p + q - 1) (by omega) (by omega)
      obtain ⟨a, b, c'⟩ := numD_inj h' (show Vld p q 1 from ⟨hp1, hp2, hq1, hq2, by omega, by omega⟩) (by rw [e]; unfold numD; rw [hpq]; omega)
      exact .inr ⟨by omega, c', by omega⟩
theorem last_date {y m d : Int} (h : Vld y m d) (e : numD y m d = 2932896) : y = 9999 ∧ m = 12 ∧ d = 31 := numD_inj h (show Vld 9999 12 31 by decide) (e.trans (by decide))
end Go.Proofs.YtmppkhjjlgngkaaGreatDoor
