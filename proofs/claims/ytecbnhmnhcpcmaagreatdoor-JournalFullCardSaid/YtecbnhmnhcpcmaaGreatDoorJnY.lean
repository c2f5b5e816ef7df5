/- Plain facts: a posting into a store with bounds: what it leaves, and when the store is full. -/
import Derived.Test.YtecbnhmnhcpcmaaGreatDoorJnX
namespace Go.Proofs.YtecbnhmnhcpcmaaGreatDoor
open Go.RowKit Go.WideMaps Go.Maps
set_option linter.unusedVariables false
set_option linter.unusedSimpArgs false
set_option maxRecDepth 100000
theorem putD_ok {room : Int} {D : DM} {k v : Bs} (h : putE room D k v = 0) : putD room D k v = pt D k v := if_pos h
theorem setD_ok {room : Int} {D : DM} {k : Bs} {x : Nat} (h : setE room D k x = 0) : setD room D k x = kept D k x := by
  unfold setE at h
  unfold setD kept
  split
  · rfl
  · rename_i hx
    rw [if_neg hx] at h
    exact putD_ok h
theorem setAll_ok {room : Int} : ∀ (xs : List (Bs × Nat)) (D : DM), (setAll room D xs).1 = 0 → (setAll room D xs).2 = keptAll D xs
  | [], D, _ => rfl
  | (k, x) :: r, D, h => by
    unfold setAll at h ⊢
    by_cases h0 : setE room D k x ≠ 0
    · rw [if_pos h0] at h
      exact absurd h h0
    · rw [if_neg h0] at h ⊢
      rw [setAll_ok r _ h, setD_ok (Decidable.not_not.1 h0)]
      rfl
/-! how many pairs -/
theorem tidy_pt {D : DM} (h : Tidy D) (k v : Bs) : Tidy (pt D k v) := h.put (by trivial) _
theorem tidy_dl {D : DM} (h : Tidy D) (k : Bs) : Tidy (dl D k) := h.del _
theorem size_pt {D : DM} (h : Tidy D) (k v : Bs) : size (pt D k v) ≤ size D + 1 := by
  unfold pt
  rw [size_put h]
  split <;> omega
theorem size_dl {D : DM} (h : Tidy D) (k : Bs) : size (dl D k) ≤ size D := by
  have := size_del (k := .string k) h
  unfold dl
  omega
theorem put_size {room : Int} {D : DM} (h : Tidy D) (k v : Bs) : Tidy (putD room D k v) ∧ size (putD room D k v) ≤ size D + 1 := by
  unfold putD
  split
  · exact ⟨tidy_pt h k v, size_pt h k v⟩
  · exact ⟨h, by omega⟩
theorem set_size {room : Int} {D : DM} (h : Tidy D) (k : Bs) (x : Nat) : Tidy (setD room D k x) ∧ size (setD room D k x) ≤ size D + 1 := by
  unfold setD
  split
  · exact ⟨tidy_dl h k, by have := size_dl h k; omega⟩
  · exact put_size h k _
theorem putE_full {room : Int} {D : DM} {k v : Bs} (h : putE room D k v = 3) : room ≤ size D := by
  unfold putE at h
  split at h
  · cases h
  split at h
  · cases h
  split at h
  · rename_i g; exact g.2.2
  · cases h
theorem setE_full {room : Int} {D : DM} {k : Bs} {x : Nat} (h : setE room D k x = 3) : room ≤ size D := by
  unfold setE at h
  split at h
  · cases h
  · exact putE_full h
theorem setAll_size {room : Int} : ∀ (xs : List (Bs × Nat)) (D : DM), Tidy D → Tidy (setAll room D xs).2 ∧ size (setAll room D xs).2 ≤ size D + xs.length ∧ ((setAll room D xs).1 = 3 → room ≤ size D + xs.length)
  | [], D, h => ⟨h, by show size D ≤ _; omega, fun g => by cases g⟩
  | (k, x) :: r, D, h => by
    obtain ⟨h1, h2⟩ := set_size (room := room) h k x
    unfold setAll
    rw [List.length_cons]
    by_cases h0 : setE room D k x ≠ 0
    · rw [if_pos h0]
      exact ⟨h1, by dsimp only; omega, fun g => by have := setE_full g; omega⟩
    · rw [if_neg h0]
      obtain ⟨g1, g2, g3⟩ := setAll_size r _ h1
      exact ⟨g1, by omega, fun g => by have := g3 g; omega⟩
/-- what a posting comes to in any store -/
theorem postF_cases {room : Int} {D : DM} (hT : Tidy D) (t : Int) (ten : Nat) (L : List Pt) :
    ((postF room D t ten L).2.1 ≠ 0 ∧ ((postF room D t ten L).2.1 = 3 → room ≤ size D + 1 + L.length)) ∨
    (postF room D t ten L = (((lastN D + 1 : Nat) : Int), 0, postD D t ten L) ∧ postsB 1 t L = true ∧ mayJ L = true ∧ evenB allP L = true ∧ evenB unitP L = true ∧ L.any (overB D) = false) := by
  unfold postF
  by_cases h1 : ¬ (postsB 1 t L = true ∧ mayJ L = true)
  · rw [if_pos h1]
    exact .inl ⟨(show (1 : Int) ≠ 0 by decide), fun g => by cases g⟩
  rw [if_neg h1]
  by_cases h2 : ¬ (evenB allP L = true ∧ evenB unitP L = true)
  · rw [if_pos h2]
    exact .inl ⟨(show (32 : Int) ≠ 0 by decide), fun g => by cases g⟩
  rw [if_neg h2]
  by_cases h3 : L.any (overB D) = true
  · rw [if_pos h3]
    exact .inl ⟨(show (30 : Int) ≠ 0 by decide), fun g => by cases g⟩
  rw [if_neg h3]
  by_cases h4 : putE room D (106 :: big8 (lastN D + 1)) (postL (lastN D + 1) t ten L) ≠ 0
  · rw [if_pos h4]
    exact .inl ⟨h4, fun g => by have := putE_full (show putE room D (106 :: big8 (lastN D + 1)) (postL (lastN D + 1) t ten L) = 3 from g); omega⟩
  rw [if_neg h4]
  have hT1 := tidy_pt hT (106 :: big8 (lastN D + 1)) (postL (lastN D + 1) t ten L)
  have hs1 := size_pt hT (106 :: big8 (lastN D + 1)) (postL (lastN D + 1) t ten L)
  obtain ⟨hT2, hs2, hf⟩ := setAll_size (room := room) (L.map fun p => (balK p.a, toU (nbV D p).1)) _ hT1
  have hok := setAll_ok (room := room) (L.map fun p => (balK p.a, toU (nbV D p).1)) (pt D (106 :: big8 (lastN D + 1)) (postL (lastN D + 1) t ten L))
  rw [List.length_map] at hs2 hf
  have hpd : postD D t ten L = kept (keptAll (pt D (106 :: big8 (lastN D + 1)) (postL (lastN D + 1) t ten L)) (L.map fun p => (balK p.a, toU (nbV D p).1))) [113] (lastN D + 1) := rfl
  rw [hpd]
  generalize pt D (106 :: big8 (lastN D + 1)) (postL (lastN D + 1) t ten L) = D1 at *
  generalize (L.map fun p => (balK p.a, toU (nbV D p).1)) = xs at *
  by_cases h5 : (setAll room D1 xs).1 ≠ 0
  · rw [if_pos h5]
    exact .inl ⟨h5, fun g => by have := hf g; omega⟩
  rw [if_neg h5, hok (Decidable.not_not.1 h5)]
  rw [hok (Decidable.not_not.1 h5)] at hs2
  by_cases h6 : setE room (keptAll D1 xs) [113] (lastN D + 1) ≠ 0
  · exact .inl ⟨h6, fun g => by have := setE_full (show setE room (keptAll D1 xs) [113] (lastN D + 1) = 3 from g); omega⟩
  · have h6' := Decidable.not_not.1 h6
    rw [h6', setD_ok h6']
    obtain ⟨g1, g2⟩ := Decidable.not_not.1 h1
    obtain ⟨g3, g4⟩ := Decidable.not_not.1 h2
    exact .inr ⟨rfl, g1, g2, g3, g4, by simpa using h3⟩
end Go.Proofs.YtecbnhmnhcpcmaaGreatDoor
