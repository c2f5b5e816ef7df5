/- The walks of the reference's Parse and Units. -/
import Derived.Test.YtecbnhmnhcpcmaaDoorAcC
import Derived.Test.YtecbnhmnhcpcmaaDoorAcE
namespace Go.Proofs.YtecbnhmnhcpcmaaDoor
open Go.RowKit Go.Shelf Acct
set_option linter.unusedVariables false
set_option linter.unusedSimpArgs false
theorem tw_app (a r : List UInt8) (h : (47 : UInt8) ∉ a) (hr : r = [] ∨ r.head? = some 47) : (a ++ r).takeWhile (· != 47) = a := by
  induction a with
  | nil =>
    rcases hr with rfl | hr
    · rfl
    · cases r with
      | nil => rfl
      | cons c r => simp at hr; subst hr; rfl
  | cons c a ih =>
    have h2 : (c != 47) = true := by rw [bne_iff_ne]; rintro rfl; exact h List.mem_cons_self
    simp only [List.cons_append, List.takeWhile_cons, h2, if_true]
    rw [ih fun hm => h (List.mem_cons_of_mem _ hm)]
theorem app_uniq {a b r s : List UInt8} (h : a ++ r = b ++ s) (ha : (47 : UInt8) ∉ a) (hb : (47 : UInt8) ∉ b) (hr : r = [] ∨ r.head? = some 47) (hs : s = [] ∨ s.head? = some 47) : a = b ∧ r = s := by
  have h1 := tw_app a r ha hr
  rw [h, tw_app b s hb hs] at h1
  subst h1
  exact ⟨rfl, List.append_cancel_left h⟩
theorem parts_head (ns : List Int) : partsL ns = [] ∨ (partsL ns).head? = some 47 := by
  cases ns with
  | nil => exact .inl rfl
  | cons n ns => exact .inr rfl
theorem scan_word {L : List UInt8} {e : Nat} (h1 : ∀ j, j < e → isL (L.getD j 0) = true) (he : e ≤ L.length) (h2 : e < L.length → isL (L.getD e 0) = false) : ∀ wd ns, Named L wd ns → wd = L.take e ∧ L.drop e = partsL ns := by
  intro wd ns hN
  obtain ⟨l1, l2, _⟩ := hN.is
  have la := letters_all l1
  have hlen : L.length = wd.length + (partsL ns).length := by rw [l2, List.length_append]
  have e1 : e = wd.length := by
    rcases Nat.lt_trichotomy e wd.length with h | h | h
    · have h3 := h2 (by omega)
      rw [l2, getD_at _ _ _ (by rw [List.length_append]; omega), List.getElem_append_left h, List.all_eq_true.1 la _ (List.getElem_mem h)] at h3
      cases h3
    · exact h
    · have h3 := h1 wd.length h
      rcases parts_head ns with h4 | h4
      · rw [h4] at hlen; simp at hlen; omega
      · cases hp : partsL ns with
        | nil => rw [hp] at h4; cases h4
        | cons c r =>
          rw [hp] at h4
          simp at h4
          subst h4
          rw [l2, hp, getD_at _ _ _ (by simp), List.getElem_append_right (Nat.le_refl _)] at h3
          simp at h3
          exact absurd h3 (by decide)
  subst e1
  exact ⟨by rw [l2, List.take_left], by rw [l2, List.drop_left]⟩
theorem seg_is {ns : List Int} {seg rest : List UInt8} (h : partsL ns = 47 :: (seg ++ rest)) (h1 : (47 : UInt8) ∉ seg) (h2 : rest = [] ∨ rest.head? = some 47) : ∃ n r, ns = n :: r ∧ seg = Lib.itoa n ∧ rest = partsL r := by
  cases ns with
  | nil => cases h
  | cons n r =>
    rw [partsL] at h
    simp only [List.cons.injEq, true_and] at h
    obtain ⟨h3, h4⟩ := app_uniq h (itoa_no n) h1 (parts_head r) h2
    exact ⟨n, r, rfl, h3.symm, h4.symm⟩
theorem not_in_take {L : List UInt8} {a j : Nat} (hj : j ≤ L.length) (h : ∀ i, a ≤ i → i < j → L.getD i 0 ≠ 47) : (47 : UInt8) ∉ (L.drop a).take (j - a) := by
  intro hm
  obtain ⟨i, hi, e⟩ := List.getElem_of_mem hm
  rw [List.length_take, List.length_drop] at hi
  rw [List.getElem_take, List.getElem_drop] at e
  have := h (a + i) (by omega) (by omega)
  rw [getD_at _ _ _ (by omega)] at this
  exact this e
theorem drop_split {L : List UInt8} {a j : Nat} (ha : a ≤ j) : L.drop a = (L.drop a).take (j - a) ++ L.drop j := by
  have h := List.take_append_drop (j - a) (L.drop a)
  rw [List.drop_drop, show a + (j - a) = j from by omega] at h
  exact h.symm
theorem drop_head {L : List UInt8} {j : Nat} (h : j = L.length ∨ (j < L.length ∧ L.getD j 0 = 47)) : L.drop j = [] ∨ (L.drop j).head? = some 47 := by
  rcases h with h | ⟨h1, h2⟩
  · exact .inl (List.drop_eq_nil_of_le (by omega))
  · right
    rw [List.drop_eq_getElem_cons h1]
    rw [getD_at _ _ _ h1] at h2
    simp [h2]
/-- what the scan has read: e letters, numbers done, k bytes -/
def ScanAt (L : List UInt8) (e k : Nat) (done : List Int) : Prop :=
  L.take k = L.take e ++ partsL done ∧ (∀ n ∈ done, inInt n) ∧ ∀ wd ns, Named L wd ns → wd = L.take e ∧ ∃ r, ns = done ++ r ∧ L.drop k = partsL r
theorem scan_bad {L : List UInt8} {e k : Nat} {done : List Int} (h : ScanAt L e k done) (hk : k < L.length) (hc : L.getD k 0 ≠ 47) : ∀ wd ns, ¬ Named L wd ns := by
  intro wd ns hN
  obtain ⟨_, r, _, hr⟩ := h.2.2 wd ns hN
  rw [getD_at _ _ _ hk] at hc
  rw [List.drop_eq_getElem_cons hk] at hr
  rcases parts_head r with h1 | h1
  · rw [h1] at hr; cases hr
  · rw [← hr] at h1; exact hc (Option.some.inj h1)
theorem scan_num {L : List UInt8} {e k j : Nat} {done : List Int} (h : ScanAt L e k done) (hk : k < L.length) (hc : L.getD k 0 = 47) (hj : k + 1 ≤ j) (hjl : j ≤ L.length) (hno : ∀ i, k + 1 ≤ i → i < j → L.getD i 0 ≠ 47) (hend : j = L.length ∨ (j < L.length ∧ L.getD j 0 = 47)) :
    ∀ wd ns, Named L wd ns → wd = L.take e ∧ ∃ n r, ns = done ++ n :: r ∧ (L.drop (k + 1)).take (j - (k + 1)) = Lib.itoa n ∧ L.drop j = partsL r := by
  intro wd ns hN
  obtain ⟨h1, r, h2, h3⟩ := h.2.2 wd ns hN
  rw [getD_at _ _ _ hk] at hc
  rw [List.drop_eq_getElem_cons hk, hc, drop_split hj] at h3
  obtain ⟨n, r', h4, h5, h6⟩ := seg_is h3.symm (not_in_take hjl hno) (drop_head hend)
  exact ⟨h1, n, r', by rw [h2, h4], h5, h6⟩
theorem scan_no {L : List UInt8} {e k j : Nat} {done : List Int} (h : ScanAt L e k done) (hk : k < L.length) (hc : L.getD k 0 = 47) (hj : k + 1 ≤ j) (hjl : j ≤ L.length) (hno : ∀ i, k + 1 ≤ i → i < j → L.getD i 0 ≠ 47) (hend : j = L.length ∨ (j < L.length ∧ L.getD j 0 = 47))
    (hx : ∀ m, inInt m → (L.drop (k + 1)).take (j - (k + 1)) ≠ Lib.itoa m) : ∀ wd ns, ¬ Named L wd ns := by
  intro wd ns hN
  obtain ⟨_, n, r, h1, h2, _⟩ := scan_num h hk hc hj hjl hno hend wd ns hN
  exact hx n (hN.2.2 n (by rw [h1]; simp)) h2
theorem scan_next {L : List UInt8} {e k j : Nat} {done : List Int} {n : Int} (h : ScanAt L e k done) (hk : k < L.length) (hc : L.getD k 0 = 47) (hj : k + 1 ≤ j) (hjl : j ≤ L.length) (hno : ∀ i, k + 1 ≤ i → i < j → L.getD i 0 ≠ 47) (hend : j = L.length ∨ (j < L.length ∧ L.getD j 0 = 47))
    (hn : inInt n) (hx : (L.drop (k + 1)).take (j - (k + 1)) = Lib.itoa n) : ScanAt L e j (done ++ [n]) := by
  refine ⟨?_, ?_, ?_⟩
  · rw [partsL_snoc, ← List.append_assoc, ← h.1, ← hx]
    rw [getD_at _ _ _ hk] at hc
    have e1 : L.take j = L.take k ++ (L.drop k).take (j - k) := by
      rw [← List.take_add]; congr 1; omega
    rw [e1, List.drop_eq_getElem_cons hk, hc, show j - k = (j - (k + 1)) + 1 from by omega, List.take_succ_cons]
  · intro m hm
    rcases List.mem_append.1 hm with h1 | h1
    · exact h.2.1 m h1
    · simp at h1; subst h1; exact hn
  · intro wd ns hN
    obtain ⟨h1, m, r, h2, h3, h4⟩ := scan_num h hk hc hj hjl hno hend wd ns hN
    have : n = m := itoa_inj hn (hN.2.2 m (by rw [h2]; simp)) (by rw [← hx, h3])
    subst this
    exact ⟨h1, r, by rw [h2]; simp, h4⟩
theorem scan_end {L : List UInt8} {e : Nat} {done : List Int} (h : ScanAt L e L.length done) (h0 : 1 ≤ e) (he : e ≤ L.length) (hl : L.length ≤ 32) (h1 : ∀ j, j < e → isL (L.getD j 0) = true) : Named L (L.take e) done := by
  have e1 := h.1
  rw [List.take_length] at e1
  have hw : lettersL (L.take e) = true := by
    unfold lettersL
    rw [Bool.and_eq_true, List.all_eq_true]
    constructor
    · cases hq : L.take e with
      | nil => have h9 : (L.take e).length = 0 := by rw [hq]; rfl
               rw [List.length_take] at h9; omega
      | cons c r => rfl
    · intro c hc
      obtain ⟨j, hj, rfl⟩ := List.getElem_of_mem hc
      rw [List.length_take] at hj
      rw [List.getElem_take]
      have := h1 j (by omega)
      rw [getD_at _ _ _ (by omega)] at this
      exact this
  have := named_of hw (ns := done) (by rw [← e1]; exact hl) h.2.1
  rw [← e1] at this
  exact this
theorem scan_zero {L : List UInt8} (h : 0 < L.length → isL (L.getD 0 0) = false) : ∀ wd ns, ¬ Named L wd ns := by
  intro wd ns hN
  have h1 := scan_word (L := L) (e := 0) (fun j hj => by omega) (Nat.zero_le _) h wd ns hN
  have h2 := hN.is.1
  rw [h1.1] at h2
  revert h2
  simp [lettersL]
end Go.Proofs.YtecbnhmnhcpcmaaDoor
