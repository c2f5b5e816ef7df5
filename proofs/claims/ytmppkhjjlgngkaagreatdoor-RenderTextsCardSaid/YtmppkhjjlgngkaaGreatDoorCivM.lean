/- Plain arithmetic of the calendar: month lengths, days of years, dates and their numbers. No program. -/
import Derived.Below
namespace Go.Proofs.YtmppkhjjlgngkaaGreatDoor.Civ

/-- the table of months' lengths -/
def lenL : List Int := [31, 28, 31, 30, 31, 30, 31, 31, 30, 31, 30, 31]
def leapB (y : Int) : Bool := y.tmod 4 == 0 && (y.tmod 100 != 0 || y.tmod 400 == 0)
def tabM (m : Int) : Int := lenL.getD (m % 12).toNat 0
/-- days of the month number m; 0: there is none -/
def lenM (m : Int) : Int := if m < 12 ∨ 120000 ≤ m then 0 else tabM m + if m % 12 = 1 ∧ leapB (m / 12) = true then 1 else 0
theorem tabM_bd (m : Int) : 28 ≤ tabM m ∧ tabM m ≤ 31 := by
  unfold tabM
  have h : (m % 12).toNat < 12 := by omega
  generalize (m % 12).toNat = k at h
  have : ∀ k : Nat, k < 12 → 28 ≤ lenL.getD k 0 ∧ lenL.getD k 0 ≤ 31 := by decide
  exact this k h
theorem lenM_bd (m : Int) (h : 12 ≤ m) (h' : m < 120000) : 28 ≤ lenM m ∧ lenM m ≤ 32 := by
  have := tabM_bd m
  unfold lenM
  rw [if_neg (by omega)]
  split <;> omega
theorem lenM_le (m : Int) : 0 ≤ lenM m ∧ lenM m ≤ 32 := by
  have := tabM_bd m
  unfold lenM
  split
  · omega
  · split <;> omega
theorem lenM_no {m : Int} (h : m < 12 ∨ 120000 ≤ m) : lenM m = 0 := by unfold lenM; rw [if_pos h]
theorem lenM_zero {m : Int} : lenM m = 0 ↔ m < 12 ∨ 120000 ≤ m := by
  constructor
  · intro h
    by_cases c : m < 12 ∨ 120000 ≤ m
    · exact c
    · have := lenM_bd m (by omega) (by omega); omega
  · exact lenM_no

def leapI (y : Int) : Int := if y % 4 = 0 ∧ (y % 100 ≠ 0 ∨ y % 400 = 0) then 1 else 0
theorem leapB_eq (y : Int) (h : 0 ≤ y) : leapB y = decide (y % 4 = 0 ∧ (y % 100 ≠ 0 ∨ y % 400 = 0)) := by
  unfold leapB
  rw [Int.tmod_eq_emod_of_nonneg h, Int.tmod_eq_emod_of_nonneg h, Int.tmod_eq_emod_of_nonneg h, Bool.eq_iff_iff]
  simp
theorem leapI_01 (y : Int) : 0 ≤ leapI y ∧ leapI y ≤ 1 := by unfold leapI; split <;> omega
/-- days of the years ahead of y -/
def yearsF (y : Int) : Int := 365 * (y - 1) + (y - 1) / 4 - (y - 1) / 100 + (y - 1) / 400
theorem yearsF_succ (y : Int) : yearsF (y + 1) = yearsF y + 365 + leapI y := by
  unfold yearsF leapI
  split <;> omega
theorem yearsF_mono {a b : Int} (h : a ≤ b) : yearsF a ≤ yearsF b := by unfold yearsF; omega
theorem yearsF_lt {a b : Int} (h : a < b) : yearsF a + 365 ≤ yearsF b := by unfold yearsF; omega
theorem yearsF_bd (y : Int) (h : 1 ≤ y) (h' : y ≤ 10000) : 0 ≤ yearsF y ∧ yearsF y ≤ 3652059 := by unfold yearsF; omega
/-- days of the months of a year ahead of the k-th -/
def cum (y : Int) : Nat → Int
  | 0 => 0
  | k + 1 => cum y k + lenM (12 * y + k)
theorem lenM_at (y : Int) (k : Nat) (hy : 1 ≤ y) (hy' : y ≤ 9999) (hk : k < 12) : lenM (12 * y + k) = lenL.getD k 0 + if k = 1 then leapI y else 0 := by
  unfold lenM tabM
  rw [if_neg (by omega), show ((12 * y + k) % 12).toNat = k from by omega, show (12 * y + (k : Int)) / 12 = y from by omega, leapB_eq y (by omega)]
  by_cases h : k = 1
  · subst h; unfold leapI; simp
  · rw [if_neg h, if_neg (by omega)]
theorem cum_13 (y : Int) (hy : 1 ≤ y) (hy' : y ≤ 9999) : cum y 12 = 365 + leapI y := by
  simp only [cum]
  rw [show (12 * y + ((0:Nat) : Int)) = 12 * y + (0 : Nat) from rfl]
  rw [lenM_at y 0 hy hy' (by omega), lenM_at y 1 hy hy' (by omega), lenM_at y 2 hy hy' (by omega), lenM_at y 3 hy hy' (by omega), lenM_at y 4 hy hy' (by omega), lenM_at y 5 hy hy' (by omega), lenM_at y 6 hy hy' (by omega), lenM_at y 7 hy hy' (by omega), lenM_at y 8 hy hy' (by omega), lenM_at y 9 hy hy' (by omega), lenM_at y 10 hy hy' (by omega), lenM_at y 11 hy hy' (by omega)]
  simp [lenL]
  omega
theorem cum_mono (y : Int) (a : Nat) : ∀ b : Nat, a ≤ b → cum y a ≤ cum y b := by
  intro b h
  induction b with
  | zero => obtain rfl : a = 0 := by omega
            exact Int.le_refl _
  | succ b ih =>
    by_cases e : a = b + 1
    · subst e; exact Int.le_refl _
    · have := ih (by omega)
      have := lenM_le (12 * y + b)
      simp only [cum]; omega
theorem cum_bd (y : Int) (k : Nat) (hk : k ≤ 12) : 0 ≤ cum y k ∧ cum y k ≤ 384 := by
  have : ∀ k : Nat, 0 ≤ cum y k ∧ cum y k ≤ 32 * k := by
    intro k
    induction k with
    | zero => simp [cum]
    | succ k ih => have := lenM_le (12 * y + k); simp only [cum]; omega
  have := this k
  omega
/-- the number of the first day of a month -/
def firstM (m : Int) : Int := yearsF (m / 12) - 719162 + cum (m / 12) (m % 12).toNat
theorem firstM_at (y : Int) (k : Nat) (hk : k < 12) : firstM (12 * y + k) = yearsF y - 719162 + cum y k := by
  unfold firstM
  rw [show (12 * y + (k : Int)) / 12 = y from by omega, show ((12 * y + (k : Int)) % 12).toNat = k from by omega]
theorem firstM_succ (m : Int) (h : 12 ≤ m) (h' : m < 120000) : firstM (m + 1) = firstM m + lenM m := by
  obtain ⟨y, k, hk, rfl⟩ : ∃ (y : Int) (k : Nat), k < 12 ∧ m = 12 * y + k := ⟨m / 12, (m % 12).toNat, by omega, by omega⟩
  rw [firstM_at y k hk]
  by_cases e : k = 11
  · subst e
    rw [show 12 * y + ((11 : Nat) : Int) + 1 = 12 * (y + 1) + (0 : Nat) from by omega, firstM_at (y + 1) 0 (by omega), yearsF_succ]
    have h13 := cum_13 y (by omega) (by omega)
    have hs : cum y 12 = cum y 11 + lenM (12 * y + (11 : Nat)) := rfl
    rw [show cum (y + 1) 0 = 0 from rfl]
    omega
  · rw [show 12 * y + (k : Int) + 1 = 12 * y + ((k + 1 : Nat) : Int) from by omega, firstM_at y (k + 1) (by omega)]
    simp only [cum]; omega
theorem firstM_bd (m : Int) (h : 12 ≤ m) (h' : m < 120000) : -719162 ≤ firstM m ∧ firstM m ≤ 2933300 := by
  have hy := yearsF_bd (m / 12) (by omega) (by omega)
  have hc := cum_bd (m / 12) (m % 12).toNat (by omega)
  unfold firstM
  omega
theorem firstM_mono {a b : Int} (h : 12 ≤ a) (hab : a ≤ b) (hb : b ≤ 120000) : firstM a ≤ firstM b := by
  obtain ⟨n, rfl⟩ : ∃ n : Nat, b = a + n := ⟨(b - a).toNat, by omega⟩
  induction n with
  | zero => simp
  | succ n ih =>
    have h1 := ih (by omega) (by omega)
    have h2 := firstM_succ (a + n) (by omega) (by omega)
    have h3 := lenM_le (a + n)
    rw [show a + ((n + 1 : Nat) : Int) = a + n + 1 from by omega]
    omega
/-- is it a date? -/
def Vld (y m d : Int) : Prop := 1 ≤ y ∧ y ≤ 9999 ∧ 1 ≤ m ∧ m ≤ 12 ∧ 1 ≤ d ∧ d ≤ lenM (12 * y + m - 1)
instance (y m d : Int) : Decidable (Vld y m d) := by unfold Vld; infer_instance
def vldB (y m d : Int) : Bool := decide (Vld y m d)
theorem vldB_t {y m d : Int} : vldB y m d = true ↔ Vld y m d := by simp [vldB]
theorem vldB_f {y m d : Int} : vldB y m d = false ↔ ¬ Vld y m d := by simp [vldB]
/-- a date's number -/
def numD (y m d : Int) : Int := firstM (12 * y + m - 1) + d - 1
theorem numD_bd {y m d : Int} (h : Vld y m d) : -719162 ≤ numD y m d ∧ numD y m d ≤ 2932896 := by
  obtain ⟨h1, h2, h3, h4, h5, h6⟩ := h
  have h7 := firstM_bd (12 * y + m - 1) (by omega) (by omega)
  have h8 := firstM_succ (12 * y + m - 1) (by omega) (by omega)
  have h9 := firstM_mono (a := 12 * y + m - 1 + 1) (b := 120000) (by omega) (by omega) (by omega)
  have h10 : firstM 120000 = 2932897 := by decide
  unfold numD
  omega
theorem numD_inj {y m d y' m' d' : Int} (h : Vld y m d) (h' : Vld y' m' d') (e : numD y m d = numD y' m' d') : y = y' ∧ m = m' ∧ d = d' := by
  obtain ⟨h1, h2, h3, h4, h5, h6⟩ := h
  obtain ⟨k1, k2, k3, k4, k5, k6⟩ := h'
  unfold numD at e
  have a1 := firstM_succ (12 * y + m - 1) (by omega) (by omega)
  have a2 := firstM_succ (12 * y' + m' - 1) (by omega) (by omega)
  have hm : 12 * y + m - 1 = 12 * y' + m' - 1 := by
    rcases Int.lt_trichotomy (12 * y + m - 1) (12 * y' + m' - 1) with c | c | c
    · have := firstM_mono (a := 12 * y + m - 1 + 1) (b := 12 * y' + m' - 1) (by omega) (by omega) (by omega); omega
    · exact c
    · have := firstM_mono (a := 12 * y' + m' - 1 + 1) (b := 12 * y + m - 1) (by omega) (by omega) (by omega); omega
  rw [hm] at e
  omega
end Go.Proofs.YtmppkhjjlgngkaaGreatDoor.Civ
