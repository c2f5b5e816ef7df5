/- Plain laws of account names: cut at strokes, numerals read back. No program. -/
import Derived.Test.YtecbnhmnhcpcmaaGreatDoorPkJournalPlays10
import Derived.Test.YtecbnhmnhcpcmaaGreatDoorPkJournalPlays0
import Derived.Lib.ParseIntBCases
/-! Plain laws of account names: cut at strokes, numerals read back. No program. -/
namespace Go.Proofs.YtecbnhmnhcpcmaaGreatDoor.Acct
open Go Go.Lib
set_option linter.unusedVariables false
theorem dec_digit (u : Nat) : ∀ c ∈ decDigits u, 48 ≤ c.toNat ∧ c.toNat ≤ 57 := by
  induction u using Nat.strongRecOn with
  | ind u ih =>
    intro c hc
    rw [decDigits] at hc
    split at hc
    · simp only [List.mem_singleton] at hc
      subst hc
      rw [UInt8.toNat_ofNat_of_lt' (by show _ < 256; omega)]
      omega
    · rcases List.mem_append.1 hc with h | h
      · exact ih (u / 10) (by omega) c h
      · simp only [List.mem_singleton] at h
        subst h
        rw [UInt8.toNat_ofNat_of_lt' (by show _ < 256; omega)]
        omega
theorem dec_ne (u : Nat) : decDigits u ≠ [] := by
  rw [decDigits]
  split <;> simp
theorem parseM_dec (M : Nat) (hM : M ≤ 18446744073709551615) (u : Nat) : u ≤ M → ∀ r, parseUintM M 0 (decDigits u ++ r) = parseUintM M u r := by
  induction u using Nat.strongRecOn with
  | ind u ih =>
    intro hu r
    rw [decDigits]
    split
    · have e : (UInt8.ofNat (48 + u)).toNat = 48 + u := UInt8.toNat_ofNat_of_lt' (by show _ < 256; omega)
      rw [List.singleton_append, parseUintM, if_pos (by rw [e]; omega), if_neg (by omega), e, if_neg (by omega)]
      congr 1
      omega
    · have e : (UInt8.ofNat (48 + u % 10)).toNat = 48 + u % 10 := UInt8.toNat_ofNat_of_lt' (by show _ < 256; omega)
      rw [List.append_assoc, ih (u / 10) (by omega) (by omega), List.singleton_append, parseUintM, if_pos (by rw [e]; omega), if_neg (by omega), e, if_neg (by omega)]
      congr 1
      omega
theorem parseU_dec (u : Nat) (h : u ≤ 18446744073709551615) : parseUintB 64 (decDigits u) = .ok u := by
  unfold parseUintB
  rw [if_neg (dec_ne u)]
  have := parseM_dec 18446744073709551615 (Nat.le_refl _) u h []
  rw [List.append_nil] at this
  exact this
/-- a numeral comes back -/
theorem parse_itoa (n : Int) (h : inInt n) : parseIntB 64 (itoa n) = .ok n := by
  obtain ⟨h1, h2⟩ := h
  unfold itoa
  split
  · rw [parseIntB_minus, parseU_dec _ (by omega)]
    unfold signedC
    simp only
    rw [if_neg (by show ¬ 9223372036854775808 < _; omega)]
    congr 1
    omega
  · have hd := dec_digit n.toNat
    have hp := parseU_dec n.toNat (by omega)
    cases hc : decDigits n.toNat with
    | nil => exact absurd hc (dec_ne _)
    | cons c r =>
      rw [hc] at hd hp
      have := hd c List.mem_cons_self
      rw [parseIntB_plain 64 c r (by omega) (by omega), hp]
      unfold signlessC
      simp only
      rw [if_neg (by show ¬ 9223372036854775808 ≤ _; omega)]
      congr 1
      omega
theorem itoa_inj {n m : Int} (hn : inInt n) (hm : inInt m) (h : itoa n = itoa m) : n = m := by
  have h1 := parse_itoa n hn
  rw [h, parse_itoa m hm] at h1
  injection h1 with h1
  exact h1.symm
theorem itoa_char (n : Int) : ∀ c ∈ itoa n, c.toNat = 45 ∨ (48 ≤ c.toNat ∧ c.toNat ≤ 57) := by
  intro c hc
  unfold itoa at hc
  split at hc
  · rcases List.mem_cons.1 hc with h | h
    · subst h; exact .inl rfl
    · exact .inr (dec_digit _ c h)
  · exact .inr (dec_digit _ c hc)
theorem itoa_no (n : Int) : (47 : UInt8) ∉ itoa n := fun h => by
  have := itoa_char n _ h
  have e : (47 : UInt8).toNat = 47 := rfl
  omega
theorem itoa_ne (n : Int) : itoa n ≠ [] := by
  unfold itoa
  split
  · simp
  · exact dec_ne _
theorem letters_no {l : List UInt8} (h : l.all isL = true) : (47 : UInt8) ∉ l := fun hm => by
  have := List.all_eq_true.1 h _ hm
  revert this
  decide
theorem occ_one (l : List UInt8) (j : Nat) : occAt l [47] j = decide (l[j]? = some 47) := by
  unfold occAt
  cases hd : l.drop j with
  | nil =>
    have : l.length ≤ j := List.drop_eq_nil_iff.1 hd
    rw [List.getElem?_eq_none this]
    rfl
  | cons c r =>
    have hj : j < l.length := by
      rcases Nat.lt_or_ge j l.length with h | h
      · exact h
      · rw [List.drop_eq_nil_of_le h] at hd; cases hd
    have e : l[j]? = some c := by
      have := congrArg List.head? hd
      rw [List.head?_drop] at this
      simpa using this
    rw [e]
    by_cases hc : c = 47
    · subst hc; simp
    · have : ((47 : UInt8) == c) = false := by simpa using fun h => hc h.symm
      simp [List.isPrefixOf, this, hc]
theorem idx_hit (a r : List UInt8) (h : (47 : UInt8) ∉ a) : index (a ++ 47 :: r) [47] = a.length := by
  apply index_first
  · simp
  · rw [occ_one]; simp
  · intro j hj
    rw [occ_one, List.getElem?_append_left hj]
    apply decide_eq_false
    intro e
    exact h (List.mem_of_getElem? e)
theorem idx_miss (a : List UInt8) (h : (47 : UInt8) ∉ a) : index a [47] = -1 := by
  apply index_none
  intro j hj
  rw [occ_one]
  exact decide_eq_false fun e => h (List.mem_of_getElem? e)
theorem split_one (a : List UInt8) (h : (47 : UInt8) ∉ a) : split a [47] = [a] := by
  unfold split
  rw [count_miss (idx_miss a h)]
  rfl
theorem split_app (a r : List UInt8) (h : (47 : UInt8) ∉ a) : split (a ++ 47 :: r) [47] = a :: split r [47] := by
  have e := idx_hit a r h
  unfold split
  have hd : (a ++ 47 :: r).drop (a.length + ([47] : List UInt8).length) = r := by
    rw [show a.length + [(47 : UInt8)].length = (a ++ [47]).length from by simp, show a ++ 47 :: r = (a ++ [47]) ++ r from by simp, List.drop_left]
  rw [count_hit (by simp) e, hd, Nat.add_comm, splitK, e]
  have hm : ¬ (((a.length : Int)) == -1) = true := fun e => by have := beq_iff_eq.1 e; omega
  rw [if_neg hm, show ((a.length : Int)).toNat = a.length from by omega, hd, Nat.add_zero, List.take_left]
/-- the pieces of a name -/
theorem split_name : ∀ (ns : List Int) (w : List UInt8), (47 : UInt8) ∉ w → split (w ++ partsL ns) [47] = w :: ns.map itoa
  | [], w, h => by rw [partsL, List.append_nil]; exact split_one w h
  | n :: ns, w, h => by
    rw [partsL, split_app w _ h, split_name ns (itoa n) (itoa_no n)]
    rfl
/-- a text is the name of a word and numbers -/
def Named (l : List UInt8) (w : List UInt8) (ns : List Int) : Prop := nameL w ns = l ∧ l ≠ [] ∧ ∀ n ∈ ns, inInt n
theorem Named.is {l w : List UInt8} {ns : List Int} (h : Named l w ns) : lettersL w = true ∧ l = w ++ partsL ns ∧ l.length ≤ 32 := by
  obtain ⟨h1, h2, h3⟩ := h
  unfold nameL at h1
  split at h1
  · rename_i h4
    exact ⟨h4.1, h1.symm, by rw [← h1]; exact h4.2⟩
  · exact absurd h1.symm h2
theorem named_of {w : List UInt8} {ns : List Int} (h1 : lettersL w = true) (h2 : (w ++ partsL ns).length ≤ 32) (h3 : ∀ n ∈ ns, inInt n) : Named (w ++ partsL ns) w ns := by
  refine ⟨nameL_yes h1 h2, ?_, h3⟩
  unfold lettersL at h1
  cases w with
  | nil => simp at h1
  | cons c r => simp
theorem letters_all {w : List UInt8} (h : lettersL w = true) : w.all isL = true := by
  unfold lettersL at h
  rw [Bool.and_eq_true] at h
  exact h.2
theorem Named.split {l w : List UInt8} {ns : List Int} (h : Named l w ns) : split l [47] = w :: ns.map itoa := by
  obtain ⟨h1, h2, _⟩ := h.is
  rw [h2]
  exact split_name ns w (letters_no (letters_all h1))
theorem map_itoa_inj : ∀ (a b : List Int), (∀ n ∈ a, inInt n) → (∀ n ∈ b, inInt n) → a.map itoa = b.map itoa → a = b
  | [], [], _, _, _ => rfl
  | [], y :: b, _, _, h => by simp at h
  | x :: a, [], _, _, h => by simp at h
  | x :: a, y :: b, ha, hb, h => by
    simp only [List.map_cons, List.cons.injEq] at h
    rw [itoa_inj (ha x List.mem_cons_self) (hb y List.mem_cons_self) h.1, map_itoa_inj a b (fun n hn => ha n (List.mem_cons_of_mem _ hn)) (fun n hn => hb n (List.mem_cons_of_mem _ hn)) h.2]
theorem Named.only {l w w' : List UInt8} {ns ns' : List Int} (h : Named l w ns) (h' : Named l w' ns') : w = w' ∧ ns = ns' := by
  have h1 := h.split
  rw [h'.split] at h1
  simp only [List.cons.injEq] at h1
  exact ⟨h1.1.symm, map_itoa_inj _ _ h.2.2 h'.2.2 h1.2.symm⟩
/-- numerals, read one by one -/
def numsL : List (List UInt8) → Option (List Int)
  | [] => some []
  | s :: r => match parseIntB 64 s with
    | .ok n => (numsL r).map (n :: ·)
    | _ => none
theorem numsL_itoa : ∀ (ns : List Int), (∀ n ∈ ns, inInt n) → numsL (ns.map itoa) = some ns
  | [], _ => rfl
  | n :: ns, h => by
    rw [List.map_cons, numsL, parse_itoa n (h n List.mem_cons_self)]
    simp only
    rw [numsL_itoa ns fun m hm => h m (List.mem_cons_of_mem _ hm)]
    rfl
theorem parseI_bd {l : List UInt8} {n : Int} (h : parseIntB 64 l = .ok n) : inInt n := by
  have hp : (2 : Nat) ^ (64 - 1) = 9223372036854775808 := by decide
  cases l with
  | nil => cases h
  | cons c r =>
    simp only [parseIntB, hp] at h
    split at h
    · cases h
    · cases h
    · split at h
      · cases h
      · split at h
        · cases h
        · injection h with h
          subst h
          unfold inInt
          split <;> omega
theorem splitB_one (s : ByteArray) : (Lib.splitB ⟨#[47]⟩ 0 (Lib.countB s ⟨#[47]⟩) s).map (·.data.toList) = split s.data.toList [47] := by
  rw [splitB_data]
  rfl
theorem split_ne (l : List UInt8) : split l [47] ≠ [] := by
  unfold split
  cases count l [47] with
  | zero => simp [splitK]
  | succ k => rw [splitK]; split <;> simp
theorem nDig {k u : Nat} (h : u < 10 ^ k) (hk : 1 ≤ k) : Lib.nDigits u ≤ k := by
  induction k generalizing u with
  | zero => omega
  | succ k ih =>
    by_cases h1 : u < 10
    · rw [Lib.nDigits_small h1]; omega
    · rw [Lib.nDigits_big h1]
      rcases Nat.eq_zero_or_pos k with rfl | hk0
      · simp at h; omega
      · have := ih (u := u / 10) (by rw [Nat.pow_succ] at h; omega) hk0
        omega
theorem itoa_form {m : Int} (h : inInt m) : (m < 0 ∧ itoa m = 45 :: decDigits m.natAbs ∧ (decDigits m.natAbs).length ≤ 19) ∨ (0 ≤ m ∧ itoa m = decDigits m.toNat ∧ (decDigits m.toNat).length ≤ 19) := by
  obtain ⟨h1, h2⟩ := h
  by_cases hm : m < 0
  · left
    refine ⟨hm, by unfold itoa; rw [if_pos hm], ?_⟩
    rw [decDigits_length]
    exact nDig (by omega) (by decide)
  · right
    refine ⟨by omega, by unfold itoa; rw [if_neg hm], ?_⟩
    rw [decDigits_length]
    exact nDig (by omega) (by decide)
def dgt (c : UInt8) : Prop := 48 ≤ c.toNat ∧ c.toNat ≤ 57
/-- what is no number -/
theorem no_num_neg {D : List UInt8} (h : D = [] ∨ 19 < D.length ∨ ∃ c ∈ D, ¬ dgt c) : ∀ m, inInt m → 45 :: D ≠ itoa m := by
  intro m hm e
  rcases itoa_form hm with ⟨_, h2, h3⟩ | ⟨_, h2, h3⟩
  · rw [h2] at e
    simp only [List.cons.injEq, true_and] at e
    rw [← e] at h3
    rcases h with h | h | ⟨c, hc, hd⟩
    · exact dec_ne _ (e.symm.trans h)
    · omega
    · rw [e] at hc; exact hd (dec_digit _ c hc)
  · rw [h2] at e
    exact absurd (dec_digit m.toNat 45 (by rw [← e]; exact List.mem_cons_self)) (by decide)
theorem no_num_pos {D : List UInt8} (h0 : D.head? ≠ some 45) (h : D = [] ∨ 19 < D.length ∨ ∃ c ∈ D, ¬ dgt c) : ∀ m, inInt m → D ≠ itoa m := by
  intro m hm e
  rcases itoa_form hm with ⟨_, h2, h3⟩ | ⟨_, h2, h3⟩
  · rw [h2] at e; rw [e] at h0; exact h0 rfl
  · rw [h2] at e
    rw [← e] at h3
    rcases h with h | h | ⟨c, hc, hd⟩
    · exact dec_ne _ (e.symm.trans h)
    · omega
    · rw [e] at hc; exact hd (dec_digit _ c hc)
def dvL (l : List UInt8) : Nat := l.foldl (fun a c => a * 10 + (c.toNat - 48)) 0
theorem dv_snoc (l : List UInt8) (c : UInt8) : dvL (l ++ [c]) = dvL l * 10 + (c.toNat - 48) := by unfold dvL; rw [List.foldl_append]; rfl
theorem dv_dec (u : Nat) : dvL (decDigits u) = u := by
  induction u using Nat.strongRecOn with
  | ind u ih =>
    rw [decDigits]
    split
    · have e : (UInt8.ofNat (48 + u)).toNat = 48 + u := UInt8.toNat_ofNat_of_lt' (by show _ < 256; omega)
      show 0 * 10 + ((UInt8.ofNat (48 + u)).toNat - 48) = u
      rw [e]; omega
    · have e : (UInt8.ofNat (48 + u % 10)).toNat = 48 + u % 10 := UInt8.toNat_ofNat_of_lt' (by show _ < 256; omega)
      rw [dv_snoc, ih (u / 10) (by omega), e]; omega
theorem dv_lt (m : Nat) : ∀ (l : List UInt8), l.length = m → (∀ c ∈ l, dgt c) → dvL l < 10 ^ m := by
  induction m with
  | zero => intro l h _; rw [List.eq_nil_of_length_eq_zero h]; decide
  | succ m ih =>
    intro l h hc
    rcases List.eq_nil_or_concat l with rfl | ⟨r, c, rfl⟩
    · simp at h
    · rw [List.concat_eq_append] at *
      have h1 := ih r (by simpa using h) fun x hx => hc x (List.mem_append_left _ hx)
      have h2 := (hc c (by simp)).2
      rw [dv_snoc, Nat.pow_succ]
      omega
theorem val_neg {D : List UInt8} {m : Int} (hm : inInt m) (e : 45 :: D = itoa m) : (dvL D : Int) = -m := by
  rcases itoa_form hm with ⟨h1, h2, _⟩ | ⟨h1, h2, _⟩
  · rw [h2] at e
    simp only [List.cons.injEq, true_and] at e
    rw [e, dv_dec]; omega
  · rw [h2] at e
    exact absurd (dec_digit m.toNat 45 (by rw [← e]; exact List.mem_cons_self)) (by decide)
theorem val_pos {D : List UInt8} {m : Int} (h0 : D.head? ≠ some 45) (hm : inInt m) (e : D = itoa m) : (dvL D : Int) = m := by
  rcases itoa_form hm with ⟨h1, h2, _⟩ | ⟨h1, h2, _⟩
  · rw [h2] at e; rw [e] at h0; exact absurd rfl h0
  · rw [h2] at e
    rw [e, dv_dec]; omega
/-- what number answers -/
def NumR (s : List UInt8) (n : Int) (b : Bool) : Prop := inInt n ∧ ((b = true ∧ s = itoa n) ∨ (b = false ∧ ∀ m, inInt m → s ≠ itoa m))
theorem NumR.no {s : List UInt8} (h : ∀ m, inInt m → s ≠ itoa m) : NumR s 0 false := ⟨⟨by decide, by decide⟩, .inr ⟨rfl, h⟩⟩
theorem NumR.yes {s : List UInt8} {n : Int} (hn : inInt n) (h : s = itoa n) : NumR s n true := ⟨hn, .inl ⟨rfl, h⟩⟩
theorem NumR.other {s : List UInt8} {n : Int} (hn : inInt n) (h : ∀ m, inInt m → s = itoa m → n = m) (hne : s ≠ itoa n) : NumR s n false :=
  ⟨hn, .inr ⟨rfl, fun m hm e => hne (by rw [h m hm e]; exact e)⟩⟩
end Go.Proofs.YtecbnhmnhcpcmaaGreatDoor.Acct
