/- Plain text of an account's name: a word of small letters, numbers behind strokes. No program. -/
import Derived.Lib.ItoaMem
import Derived.Lib.ItoaLen
import Derived.Lib.Split
import Derived.Shelf.GgClosure.StringsIndexFunc
import Derived.Lib.TrimUEq
import Derived.Lib.SpaceUEq
/-! Plain text of an account's name: a word of small letters, numbers behind strokes. No program. -/
namespace Go.Proofs.YtecbnhmnhcpcmaaGreatDoor.Acct
open Go Go.Lib
set_option linter.unusedVariables false
def isL (c : UInt8) : Bool := decide (97 ≤ c.toNat) && decide (c.toNat ≤ 122)
def lettersL (l : List UInt8) : Bool := !l.isEmpty && l.all isL
/-- what the closure in acct.letters tells of a rune -/
def notL (x : Nat) : Bool := decide (x < 97) || decide (122 < x)
theorem isL_iff (c : UInt8) : isL c = true ↔ 97 ≤ c.toNat ∧ c.toNat ≤ 122 := by simp [isL]
theorem notL_iff (x : Nat) : notL x = false ↔ 97 ≤ x ∧ x ≤ 122 := by simp [notL]
theorem rune_hi (n b0 b1 b2 b3 : Nat) (h : 128 ≤ b0) : 128 ≤ (decodeN n b0 b1 b2 b3).1 := by
  rcases decodeN_cases n b0 b1 b2 b3 with ⟨c, _⟩ | ⟨_, _, _, c, e⟩ | ⟨_, _, _, _, c, e⟩ | ⟨c, _⟩ | e
  · omega
  · rw [e]; exact c
  · rw [e]; simp only; omega
  · omega
  · rw [e]; simp only; omega
/-- a rune is a small letter just if it is one byte, a small letter -/
theorem letter_rune (s : ByteArray) (pos : Nat) : (notL (Utf8.decode s pos).1 = false ∧ (Utf8.decode s pos).2 = 1 ∧ isL (s.get! pos) = true) ∨ (notL (Utf8.decode s pos).1 = true ∧ isL (s.get! pos) = false) := by
  rw [decode_at]
  by_cases h : (s.get! pos).toNat < 128
  · rw [decodeN_ascii _ _ _ _ _ h]
    by_cases c : 97 ≤ (s.get! pos).toNat ∧ (s.get! pos).toNat ≤ 122
    · exact .inl ⟨(notL_iff _).2 c, rfl, (isL_iff _).2 c⟩
    · exact .inr ⟨by rw [← Bool.not_eq_false]; exact fun e => c ((notL_iff _).1 e), by rw [← Bool.not_eq_true]; exact fun e => c ((isL_iff _).1 e)⟩
  · have hh := rune_hi (s.size - pos) (s.get! pos).toNat (s.get! (pos + 1)).toNat (s.get! (pos + 2)).toNat (s.get! (pos + 3)).toNat (by omega)
    have k1 : ¬ notL (decodeN (s.size - pos) (s.get! pos).toNat (s.get! (pos + 1)).toNat (s.get! (pos + 2)).toNat (s.get! (pos + 3)).toNat).1 = false := fun e => by have := (notL_iff _).1 e; omega
    have k2 : ¬ isL (s.get! pos) = true := fun e => by have := (isL_iff _).1 e; omega
    exact .inr ⟨by simpa using k1, by simpa using k2⟩
theorem idx_from (s : ByteArray) : ∀ (f pos : Nat), s.size ≤ pos + f → (idxFuncFrom notL true s f pos < 0 ↔ ∀ j, pos ≤ j → j < s.size → isL (s.get! j) = true)
  | 0, pos, h => ⟨fun _ j h1 h2 => by omega, fun _ => by simp [idxFuncFrom]⟩
  | f + 1, pos, h => by
    unfold idxFuncFrom
    by_cases hp : pos < s.size
    · rw [if_pos hp]
      rcases letter_rune s pos with ⟨h1, h2, h3⟩ | ⟨h1, h2⟩
      · rw [if_neg (by rw [h1]; decide), h2, idx_from s f (pos + 1) (by omega)]
        constructor
        · intro hj j j1 j2
          by_cases e : j = pos
          · subst e; exact h3
          · exact hj j (by omega) j2
        · exact fun hj j j1 j2 => hj j (by omega) j2
      · rw [if_pos h1]
        constructor
        · intro hc; omega
        · intro hj; have := hj pos (Nat.le_refl _) hp; rw [h2] at this; cases this
    · rw [if_neg hp]
      exact ⟨fun _ j h1 h2 => by omega, fun _ => by decide⟩
theorem get_list (s : ByteArray) (j : Nat) (h : j < s.size) : s.get! j = s.data.toList[j]'(by simpa using h) := by
  show s.data[j]! = _
  rw [getElem!_pos s.data j h]
  simp
theorem idx_letters (s : ByteArray) : decide (0 ≤ idxFunc notL true s) = !s.data.toList.all isL := by
  have h := idx_from s s.size 0 (by omega)
  have e : s.data.toList.all isL = true ↔ ∀ j, 0 ≤ j → j < s.size → isL (s.get! j) = true := by
    rw [List.all_eq_true]
    constructor
    · intro ha j _ hj
      rw [get_list s j hj]
      exact ha _ (List.getElem_mem _)
    · intro ha x hx
      obtain ⟨j, hj, rfl⟩ := List.getElem_of_mem hx
      have hj' : j < s.size := by simpa using hj
      rw [← get_list s j hj']
      exact ha j (Nat.zero_le _) hj'
  cases hb : s.data.toList.all isL
  · have : ¬ idxFunc notL true s < 0 := fun hc => by
      have := e.2 (h.1 hc)
      rw [hb] at this; cases this
    exact decide_eq_true (by omega)
  · have := h.2 (e.1 hb)
    exact decide_eq_false (by unfold idxFunc; omega)
/-- numbers behind strokes -/
def partsL : List Int → List UInt8
  | [] => []
  | n :: r => 47 :: (itoa n ++ partsL r)
theorem partsL_append (a b : List Int) : partsL (a ++ b) = partsL a ++ partsL b := by
  induction a with
  | nil => rfl
  | cons x a ih => simp [partsL, ih]
theorem partsL_snoc (a : List Int) (n : Int) : partsL (a ++ [n]) = partsL a ++ 47 :: itoa n := by rw [partsL_append]; simp [partsL]
def inInt (n : Int) : Prop := -9223372036854775808 ≤ n ∧ n ≤ 9223372036854775807
theorem partsL_len (a : List Int) (h : ∀ n ∈ a, inInt n) : (partsL a).length ≤ 22 * a.length := by
  induction a with
  | nil => simp [partsL]
  | cons x a ih =>
    have h1 := ih (fun n hn => h n (List.mem_cons_of_mem _ hn))
    have h2 := itoa_length_le x (h x (List.mem_cons_self)).1 (h x (List.mem_cons_self)).2
    simp [partsL]; omega
/-- an account's name; empty: there is none -/
def nameL (word : List UInt8) (ns : List Int) : List UInt8 := if lettersL word = true ∧ (word ++ partsL ns).length ≤ 32 then word ++ partsL ns else []
def nameB (word : ByteArray) (ns : List Int) : ByteArray := ⟨(nameL word.data.toList ns).toArray⟩
theorem nameL_yes {l : List UInt8} {ns : List Int} (h : lettersL l = true) (h' : (l ++ partsL ns).length ≤ 32) : nameL l ns = l ++ partsL ns := if_pos ⟨h, h'⟩
theorem nameL_long {l : List UInt8} {ns : List Int} (h' : ¬ (l ++ partsL ns).length ≤ 32) : nameL l ns = [] := if_neg fun h => h' h.2
theorem nameL_word {l : List UInt8} {ns : List Int} (h' : lettersL l = false) : nameL l ns = [] := if_neg fun h => by rw [h'] at h; cases h.1
end Go.Proofs.YtecbnhmnhcpcmaaGreatDoor.Acct
