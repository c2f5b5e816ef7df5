/- Plain facts on the text of a date: its ten bytes, how they come of decimal numerals, and that they are read back. No program. -/
import Derived.Test.YtmppkhjjlgngkaaGreatDoorCivM
import Derived.Lib.ItoaNum
import Derived.Lib.AtoiAll
import Derived.Lib.Repeat
namespace Go.Proofs.YtmppkhjjlgngkaaGreatDoor.Civ
open Go.Lib

/-- the last decimal digit's byte -/
def dgt (n : Nat) : UInt8 := UInt8.ofNat (48 + n % 10)
def dg2 (n : Nat) : List UInt8 := [dgt (n / 10), dgt n]
def dg4 (n : Nat) : List UInt8 := [dgt (n / 1000), dgt (n / 100), dgt (n / 10), dgt n]
/-- the text of a date -/
def txtL (y m d : Int) : List UInt8 := dg4 y.toNat ++ [45] ++ dg2 m.toNat ++ [45] ++ dg2 d.toNat
def txtB (y m d : Int) : ByteArray := ⟨(if vldB y m d = true then txtL y m d else []).toArray⟩
theorem dgt_val (n : Nat) : (dgt n).toNat = 48 + n % 10 := by
  unfold dgt
  rw [UInt8.toNat_ofNat', Nat.mod_eq_of_lt (by omega)]
theorem dgt_lt {n : Nat} (h : n < 10) : dgt n = UInt8.ofNat (48 + n) := by unfold dgt; rw [Nat.mod_eq_of_lt h]
theorem txtL_length (y m d : Int) : (txtL y m d).length = 10 := by simp [txtL, dg4, dg2]
theorem dec1 {n : Nat} (h : n < 10) : decDigits n = [dgt n] := by rw [decDigits, dif_pos h, dgt_lt h]
theorem decS {n : Nat} (h : 10 ≤ n) : decDigits n = decDigits (n / 10) ++ [dgt n] := by rw [decDigits, dif_neg (by omega)]; rfl
theorem dgt_0 : dgt 0 = 48 := by decide
theorem dgt_zero {n : Nat} (h : n = 0) : dgt n = 48 := by subst h; exact dgt_0
theorem itoa_nat (n : Nat) : itoa (n : Int) = decDigits n := by unfold itoa; rw [if_neg (by omega)]; simp
theorem rep_48 (c : Nat) : repeatL [48] c = List.replicate c 48 := by
  induction c with
  | zero => rfl
  | succ c ih => simp [repeatL, ih, List.replicate_succ]
theorem pad2 {n : Nat} (h : n < 100) : (decDigits n).length ≤ 2 ∧ repeatL [48] (2 - (decDigits n).length) ++ decDigits n = dg2 n := by
  rcases Nat.lt_or_ge n 10 with h1 | h1
  · rw [dec1 h1, rep_48]
    refine ⟨by simp, ?_⟩
    simp [dg2, dgt_zero (show n / 10 = 0 by omega)]
  · rw [decS h1, dec1 (show n / 10 < 10 by omega), rep_48]
    exact ⟨by simp, by simp [dg2]⟩
theorem pad4 {n : Nat} (h : n < 10000) : (decDigits n).length ≤ 4 ∧ repeatL [48] (4 - (decDigits n).length) ++ decDigits n = dg4 n := by
  rcases Nat.lt_or_ge n 10 with h1 | h1
  · rw [dec1 h1, rep_48]
    refine ⟨by simp, ?_⟩
    simp [dg4, List.replicate_succ, dgt_zero (show n / 10 = 0 by omega), dgt_zero (show n / 100 = 0 by omega), dgt_zero (show n / 1000 = 0 by omega)]
  · rcases Nat.lt_or_ge n 100 with h2 | h2
    · rw [decS h1, dec1 (show n / 10 < 10 by omega), rep_48]
      refine ⟨by simp, ?_⟩
      simp [dg4, List.replicate_succ, dgt_zero (show n / 100 = 0 by omega), dgt_zero (show n / 1000 = 0 by omega)]
    · rcases Nat.lt_or_ge n 1000 with h3 | h3
      · rw [decS h1, decS (show 10 ≤ n / 10 by omega), dec1 (show n / 10 / 10 < 10 by omega), rep_48, Nat.div_div_eq_div_mul]
        refine ⟨by simp, ?_⟩
        simp [dg4, List.replicate_succ, dgt_zero (show n / 1000 = 0 by omega)]
      · rw [decS h1, decS (show 10 ≤ n / 10 by omega), decS (show 10 ≤ n / 10 / 10 by omega), dec1 (show n / 10 / 10 / 10 < 10 by omega), rep_48, Nat.div_div_eq_div_mul, Nat.div_div_eq_div_mul]
        exact ⟨by simp, by simp [dg4, Nat.div_div_eq_div_mul]⟩
theorem step_dgt (acc n : Nat) (r : List UInt8) (h : acc < 100000) : parseUint10 acc (dgt n :: r) = parseUint10 (acc * 10 + n % 10) r := by
  have hv := dgt_val n
  rw [parseUint10]
  simp only [hv]
  rw [if_pos (by omega), if_neg (by omega), if_neg (by omega)]
  congr 1
  omega
theorem dgt_ne (n : Nat) : ¬ ((dgt n).toNat = 43 ∨ (dgt n).toNat = 45) ∧ ¬ (dgt n).toNat = 45 := by
  rw [dgt_val]; omega
theorem atoi_dg2 {n : Nat} (h : n < 100) : atoiAll (dg2 n) = .ok (n : Int) := by
  unfold atoiAll dg2
  dsimp only
  rw [if_neg (dgt_ne _).1, parseMag, if_neg (by simp), step_dgt _ _ _ (by omega), step_dgt _ _ _ (by omega), parseUint10]
  dsimp only
  rw [if_neg (by omega), if_neg (by have := (dgt_ne (n / 10)).2; simp [this]), if_neg (dgt_ne _).2]
  congr 1
  omega
theorem atoi_dg4 {n : Nat} (h : n < 10000) : atoiAll (dg4 n) = .ok (n : Int) := by
  unfold atoiAll dg4
  dsimp only
  rw [if_neg (dgt_ne _).1, parseMag, if_neg (by simp), step_dgt _ _ _ (by omega), step_dgt _ _ _ (by omega), step_dgt _ _ _ (by omega), step_dgt _ _ _ (by omega), parseUint10]
  dsimp only
  rw [if_neg (by omega), if_neg (by have := (dgt_ne (n / 1000)).2; simp [this]), if_neg (dgt_ne _).2]
  congr 1
  omega
theorem txt_take (y m d : Int) : (txtL y m d).take 4 = dg4 y.toNat := by simp [txtL, dg4, dg2]
theorem txt_mid (y m d : Int) : ((txtL y m d).drop 5).take 2 = dg2 m.toNat := by simp [txtL, dg4, dg2]
theorem txt_end (y m d : Int) : (txtL y m d).drop 8 = dg2 d.toNat := by simp [txtL, dg4, dg2]
theorem Vld.d31 {y m d : Int} (h : Vld y m d) : d ≤ 32 := by
  obtain ⟨h1, h2, h3, h4, h5, h6⟩ := h
  have := lenM_bd (12 * y + m - 1) (by omega) (by omega)
  omega
theorem txtL_inj {y m d y' m' d' : Int} (h : Vld y m d) (h' : Vld y' m' d') (e : txtL y m d = txtL y' m' d') : y = y' ∧ m = m' ∧ d = d' := by
  have k1 := h.d31
  have k2 := h'.d31
  obtain ⟨h1, h2, h3, h4, h5, h6⟩ := h
  obtain ⟨h1', h2', h3', h4', h5', h6'⟩ := h'
  have e1 := txt_take y m d
  rw [e, txt_take] at e1
  have e2 := txt_mid y m d
  rw [e, txt_mid] at e2
  have e3 := txt_end y m d
  rw [e, txt_end] at e3
  have a1 := atoi_dg4 (n := y.toNat) (by omega)
  rw [← e1, atoi_dg4 (by omega)] at a1
  have a2 := atoi_dg2 (n := m.toNat) (by omega)
  rw [← e2, atoi_dg2 (by omega)] at a2
  have a3 := atoi_dg2 (n := d.toNat) (by omega)
  rw [← e3, atoi_dg2 (by omega)] at a3
  injection a1 with a1
  injection a2 with a2
  injection a3 with a3
  omega
end Go.Proofs.YtmppkhjjlgngkaaGreatDoor.Civ
