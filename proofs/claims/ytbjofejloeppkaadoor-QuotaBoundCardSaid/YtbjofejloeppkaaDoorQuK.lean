/- Sums over what Split answers (plain), and the walks of law 22's word and of packs.Total. -/
import Derived.Test.YtbjofejloeppkaaDoorQuH
namespace Go.Proofs.YtbjofejloeppkaaDoor
open Go.RowKit Go.Shelf Acct
set_option linter.unusedVariables false
set_option linter.unusedSimpArgs false
def wordL (l : List UInt8) : List UInt8 := l.takeWhile (· != 47)
def wordOf (b : ByteArray) : List UInt8 := wordL b.data.toList
def asum : List (ByteArray × Int) → Int
  | [] => 0
  | p :: l => p.2 + asum l
def wsum (wd : List UInt8) : List (ByteArray × Int) → Int
  | [] => 0
  | p :: l => (if wordOf p.1 = wd then -p.2 else 0) + wsum wd l
theorem asum_append (a b : List (ByteArray × Int)) : asum (a ++ b) = asum a + asum b := by
  induction a with
  | nil => simp [asum]
  | cons x a ih => simp only [List.cons_append, asum, ih]; omega
theorem wsum_append (wd : List UInt8) (a b : List (ByteArray × Int)) : wsum wd (a ++ b) = wsum wd a + wsum wd b := by
  induction a with
  | nil => simp [wsum]
  | cons x a ih => simp only [List.cons_append, wsum, ih]; omega
theorem asum_snoc (a : List (ByteArray × Int)) (p : ByteArray × Int) : asum (a ++ [p]) = asum a + p.2 := by rw [asum_append]; simp [asum]
theorem wsum_snoc (wd : List UInt8) (a : List (ByteArray × Int)) (p : ByteArray × Int) : wsum wd (a ++ [p]) = wsum wd a + (if wordOf p.1 = wd then -p.2 else 0) := by rw [wsum_append]; simp [wsum]
theorem asum_bd {B : Int} (hB : 0 ≤ B) : ∀ (l : List (ByteArray × Int)), (∀ p ∈ l, -B ≤ p.2 ∧ p.2 ≤ B) → -(B * l.length) ≤ asum l ∧ asum l ≤ B * l.length
  | [], _ => by simp [asum]
  | p :: l, h => by
    have h1 := asum_bd hB l fun q hq => h q (List.mem_cons_of_mem _ hq)
    have h2 := h p List.mem_cons_self
    rw [show ((p :: l).length : Int) = l.length + 1 from by simp, Int.mul_add, Int.mul_one, asum]
    omega
theorem wsum_bd {B : Int} (hB : 0 ≤ B) (wd : List UInt8) : ∀ (l : List (ByteArray × Int)), (∀ p ∈ l, -B ≤ p.2 ∧ p.2 ≤ B) → -(B * l.length) ≤ wsum wd l ∧ wsum wd l ≤ B * l.length
  | [], _ => by simp [wsum]
  | p :: l, h => by
    have h1 := wsum_bd hB wd l fun q hq => h q (List.mem_cons_of_mem _ hq)
    have h2 := h p List.mem_cons_self
    rw [show ((p :: l).length : Int) = l.length + 1 from by simp, Int.mul_add, Int.mul_one, wsum]
    split <;> omega
theorem nDig {k u : Nat} (h : u < 10 ^ k) (hk : 1 ≤ k) : Lib.nDigits u ≤ k := by
  induction k generalizing u with
  | zero => omega
  | succ k ih =>
    by_cases h1 : u < 10
    · rw [Lib.nDigits_small h1]; omega
    · rw [Lib.nDigits_big h1]
      rcases Nat.eq_zero_or_pos k with rfl | hk0
      · simp at h; omega
      · have := ih (u := u / 10) (by rw [Nat.pow_succ] at h; omega) hk0
        omega
theorem itoa_len {n : Int} {k : Nat} (h1 : -(10 ^ k : Int) < n) (h2 : n < (10 ^ k : Int)) (hk : 1 ≤ k) : (Lib.itoa n).length ≤ k + 1 := by
  have e : ((10 ^ k : Nat) : Int) = (10 ^ k : Int) := by simp
  by_cases hneg : n < 0
  · obtain ⟨u, rfl⟩ : ∃ u : Nat, n = -(u : Int) := ⟨n.natAbs, by omega⟩
    rw [Lib.itoa_neg u (by omega), List.length_cons, Lib.decDigits_length]
    have := nDig (k := k) (u := u) (by omega) hk
    omega
  · obtain ⟨u, rfl⟩ : ∃ u : Nat, n = u := ⟨n.toNat, by omega⟩
    rw [Lib.itoa_nonneg, Lib.decDigits_length]
    have := nDig (k := k) (u := u) (by omega) hk
    omega
theorem itoa_len_pos {n : Int} {k : Nat} (h1 : 0 ≤ n) (h2 : n < (10 ^ k : Int)) (hk : 1 ≤ k) : (Lib.itoa n).length ≤ k := by
  have e : ((10 ^ k : Nat) : Int) = (10 ^ k : Int) := by simp
  obtain ⟨u, rfl⟩ : ∃ u : Nat, n = u := ⟨n.toNat, by omega⟩
  rw [Lib.itoa_nonneg, Lib.decDigits_length]
  exact nDig (k := k) (u := u) (by omega) hk
theorem word_app : ∀ (l r : List UInt8), l.all isL = true → wordL (l ++ 47 :: r) = l
  | [], r, _ => by simp [wordL]
  | c :: l, r, h => by
    simp only [List.all_cons, Bool.and_eq_true] at h
    have h1 := (isL_iff c).1 h.1
    have h2 : (c != 47) = true := by
      rw [bne_iff_ne]
      intro e
      subst e
      revert h1
      decide
    have := word_app l r h.2
    unfold wordL at *
    simp only [List.cons_append, List.takeWhile_cons, h2, if_true, this]
theorem word_name {w : List UInt8} {n : Int} {ns : List Int} (hw : lettersL w = true) (hl : (w ++ partsL (n :: ns)).length ≤ 32) : wordOf (nameB ⟨w.toArray⟩ (n :: ns)) = w := by
  have h : w.all isL = true := by
    unfold lettersL at hw
    rw [Bool.and_eq_true] at hw
    exact hw.2
  unfold wordOf nameB
  simp only
  rw [nameL_yes hw hl]
  exact word_app w _ h
/-- the words of Split's accounts -/
theorem word_two {w : List UInt8} {t m : Int} (hw : lettersL w = true) (hl : w.length ≤ 4) (ht : 0 ≤ t ∧ t < 4294967296) (hm : -1099511627776 ≤ m ∧ m ≤ 1099511627776) : wordOf (nameB ⟨w.toArray⟩ [t, m]) = w := by
  apply word_name hw
  have h1 := itoa_len_pos (n := t) (k := 10) ht.1 (by omega) (by decide)
  have h2 := itoa_len (n := m) (k := 13) (by omega) (by omega) (by decide)
  simp only [partsL, List.length_append, List.length_cons, List.length_nil]
  omega
theorem word_days {t : Int} (ht : 0 ≤ t ∧ t < 4294967296) : wordOf (nameB wDays [t]) = [100, 97, 121, 115] := by
  have h1 := itoa_len_pos (n := t) (k := 10) ht.1 (by omega) (by decide)
  exact word_name (w := [100, 97, 121, 115]) (by decide) (by simp only [partsL, List.length_append, List.length_cons, List.length_nil]; omega)
theorem asum_add (l : List (ByteArray × Int)) (w : ByteArray) (t n am : Int) : asum (addL l w t n am) = asum l + am := by
  unfold addL
  split
  · omega
  · rw [asum_snoc]
theorem wsum_add (wd : List UInt8) (l : List (ByteArray × Int)) (w : ByteArray) (t n am : Int) : wsum wd (addL l w t n am) = wsum wd l + (if wordOf (nameB w [t, n]) = wd then -am else 0) := by
  unfold addL
  split
  · rename_i h; subst h; simp
  · rw [wsum_snoc]
theorem asum_draw (t : Int) : ∀ (ls : List (Int × Int × Int)) (r : Int), asum (drawL t r ls) = drawR r ls - r
  | [], r => by simp [drawL, drawR, asum]
  | x :: l, r => by
    unfold drawL drawR
    split
    · rw [asum, asum_draw t l]; simp only; omega
    · exact asum_draw t l r
theorem wsum_draw (wd : List UInt8) (t : Int) (ht : 0 ≤ t ∧ t < 4294967296) : ∀ (ls : List (Int × Int × Int)) (r : Int), (∀ x ∈ ls, 0 ≤ x.1 ∧ x.1 ≤ 1099511627776) → wsum wd (drawL t r ls) = if [112, 97, 99, 107] = wd then r - drawR r ls else 0
  | [], r, _ => by simp [drawL, drawR, wsum]
  | x :: l, r, h => by
    have hx := h x List.mem_cons_self
    have hl : ∀ y ∈ l, 0 ≤ y.1 ∧ y.1 ≤ 1099511627776 := fun y hy => h y (List.mem_cons_of_mem _ hy)
    have hw : wordOf (nameB wPack [t, x.1]) = [112, 97, 99, 107] := word_two (w := [112, 97, 99, 107]) (by decide) (by decide) ht ⟨by omega, hx.2⟩
    unfold drawL drawR
    split
    · rw [wsum, hw, wsum_draw wd t ht l _ hl]
      split <;> omega
    · exact wsum_draw wd t ht l r hl
theorem drawR_is : ∀ (ls : List (Int × Int × Int)) (r : Int), 0 ≤ r → (∀ x ∈ ls, 0 ≤ x.2.2) → drawR r ls = max 0 (r - (ls.map (·.2.2)).sum)
  | [], r, h, _ => by simp [drawR]; omega
  | x :: l, r, h, hx => by
    have h1 := hx x List.mem_cons_self
    have hl : ∀ y ∈ l, 0 ≤ y.2.2 := fun y hy => hx y (List.mem_cons_of_mem _ hy)
    have hs : ∀ (l : List (Int × Int × Int)), (∀ y ∈ l, 0 ≤ y.2.2) → 0 ≤ (l.map (·.2.2)).sum := by
      intro l
      induction l with
      | nil => simp
      | cons a l ih =>
        intro h
        have := ih fun y hy => h y (List.mem_cons_of_mem _ hy)
        have := h a List.mem_cons_self
        simp only [List.map_cons, List.sum_cons]; omega
    have h2 := hs l hl
    simp only [List.map_cons, List.sum_cons]
    unfold drawR
    split
    · rw [drawR_is l _ (by omega) hl]; omega
    · rw [drawR_is l r h hl]; omega
/-- the sums of what Split answers -/
theorem split_sums (t n : Int) (ls : List (Int × Int × Int)) (da mo room free : Int) (ht : 0 ≤ t ∧ t < 4294967296) (hls : ∀ x ∈ ls, (0 ≤ x.1 ∧ x.1 ≤ 1099511627776) ∧ 0 ≤ x.2.2) (hn : 1 ≤ n)
    (hmo : -1099511627776 ≤ mo ∧ mo ≤ 1099511627776) (hda : -1099511627776 ≤ da ∧ da ≤ 1099511627776) :
    asum (splitL t n ls da mo room free) = 0 ∧ wsum [102, 114, 101, 101] (splitL t n ls da mo room free) = min n (max 0 (room - free)) ∧
    wsum [111, 118, 101, 114] (splitL t n ls da mo room free) = max 0 (n - min n (max 0 (room - free)) - (ls.map (·.2.2)).sum) ∧
    wsum [112, 97, 99, 107] (splitL t n ls da mo room free) = n - min n (max 0 (room - free)) - max 0 (n - min n (max 0 (room - free)) - (ls.map (·.2.2)).sum) := by
  have w1 : wordOf (nameB wUse [t, mo]) = [117, 115, 101] := word_two (w := [117, 115, 101]) (by decide) (by decide) ht hmo
  have w2 : wordOf (nameB wFree [t, mo]) = [102, 114, 101, 101] := word_two (w := [102, 114, 101, 101]) (by decide) (by decide) ht hmo
  have w3 : wordOf (nameB wOver [t, mo]) = [111, 118, 101, 114] := word_two (w := [111, 118, 101, 114]) (by decide) (by decide) ht hmo
  have w4 : wordOf (nameB wDay [t, da]) = [100, 97, 121] := word_two (w := [100, 97, 121]) (by decide) (by decide) ht hda
  have w5 := word_days ht
  have e1 : max 0 (n - min n (max 0 (room - free))) = n - min n (max 0 (room - free)) := by omega
  have e2 := drawR_is ls (n - min n (max 0 (room - free))) (by omega) fun x hx => (hls x hx).2
  have e3 := fun wd => wsum_draw wd t ht ls (n - min n (max 0 (room - free))) fun x hx => (hls x hx).1
  unfold splitL
  rw [e1]
  refine ⟨?_, ?_, ?_, ?_⟩
  · rw [asum_snoc, asum_add, asum_add, asum_append, asum_add, asum_add, asum_draw]
    simp only [asum]; omega
  · rw [wsum_snoc, wsum_add, wsum_add, wsum_append, wsum_add, wsum_add, e3, w1, w2, w3, w4, w5]
    simp only [wsum]
    rw [if_neg (by decide), if_pos (by decide), if_neg (by decide), if_neg (by decide), if_neg (by decide), if_neg (by decide)]; omega
  · rw [wsum_snoc, wsum_add, wsum_add, wsum_append, wsum_add, wsum_add, e3, w1, w2, w3, w4, w5]
    simp only [wsum]
    rw [if_neg (by decide), if_neg (by decide), if_neg (by decide), if_pos (by decide), if_neg (by decide), if_neg (by decide), e2]; omega
  · rw [wsum_snoc, wsum_add, wsum_add, wsum_append, wsum_add, wsum_add, e3, w1, w2, w3, w4, w5]
    simp only [wsum]
    rw [if_neg (by decide), if_neg (by decide), if_pos (by decide), if_neg (by decide), if_neg (by decide), if_neg (by decide), e2]; omega
/-- every amount is small -/
theorem split_amts (t n : Int) (ls : List (Int × Int × Int)) (da mo room free : Int) (hls : ∀ x ∈ ls, 0 ≤ x.2.2) (hn : 1 ≤ n) : ∀ p ∈ splitL t n ls da mo room free, -n ≤ p.2 ∧ p.2 ≤ n := by
  have hadd : ∀ (l : List (ByteArray × Int)) (w : ByteArray) (m am : Int), (∀ p ∈ l, -n ≤ p.2 ∧ p.2 ≤ n) → -n ≤ am ∧ am ≤ n → ∀ p ∈ addL l w t m am, -n ≤ p.2 ∧ p.2 ≤ n := by
    intro l w m am h1 h2 p hp
    unfold addL at hp
    split at hp
    · exact h1 p hp
    · rcases List.mem_append.1 hp with h | h
      · exact h1 p h
      · simp at h; subst h; exact h2
  have hdraw : ∀ (ls : List (Int × Int × Int)) (r : Int), 0 ≤ r → r ≤ n → ∀ p ∈ drawL t r ls, -n ≤ p.2 ∧ p.2 ≤ n := by
    intro ls
    induction ls with
    | nil => intro r _ _ p hp; simp [drawL] at hp
    | cons x l ih =>
      intro r h0 h1 p hp
      unfold drawL at hp
      split at hp
      · rcases List.mem_cons.1 hp with h | h
        · subst h; simp only; omega
        · exact ih _ (by omega) (by omega) p h
      · exact ih r h0 h1 p hp
  have hr := drawR_bd ls (max 0 (n - min n (max 0 (room - free)))) (by omega)
  intro p hp
  unfold splitL at hp
  rcases List.mem_append.1 hp with h | h
  · refine hadd _ _ _ _ (hadd _ _ _ _ ?_ (by omega)) (by omega) p h
    intro q hq
    rcases List.mem_append.1 hq with h | h
    · exact hadd _ _ _ _ (hadd _ _ _ _ (by simp) (by omega)) (by omega) q h
    · exact hdraw ls _ (by omega) (by omega) q h
  · simp at h; subst h; simp only; omega
theorem split_len (t n : Int) (ls : List (Int × Int × Int)) (da mo room free : Int) : (splitL t n ls da mo room free).length ≤ ls.length + 5 := by
  have hadd : ∀ (l : List (ByteArray × Int)) (w : ByteArray) (m am : Int), (addL l w t m am).length ≤ l.length + 1 := by
    intro l w m am
    unfold addL
    split <;> simp
  have h1 := hadd [] wUse mo n
  have h2 := hadd (addL [] wUse t mo n) wFree mo (-(min n (max 0 (room - free))))
  have h3 := drawL_len t ls (max 0 (n - min n (max 0 (room - free))))
  have h4 := hadd (addL (addL [] wUse t mo n) wFree t mo (-(min n (max 0 (room - free)))) ++ drawL t (max 0 (n - min n (max 0 (room - free)))) ls) wOver mo (-(drawR (max 0 (n - min n (max 0 (room - free)))) ls))
  have h5 := hadd (addL (addL (addL [] wUse t mo n) wFree t mo (-(min n (max 0 (room - free)))) ++ drawL t (max 0 (n - min n (max 0 (room - free)))) ls) wOver t mo (-(drawR (max 0 (n - min n (max 0 (room - free)))) ls))) wDay da n
  unfold splitL
  simp only [List.length_append, List.length_cons, List.length_nil] at *
  omega
theorem takeWhile_all {α : Type} (p : α → Bool) : ∀ (l : List α), (∀ x ∈ l, p x = true) → l.takeWhile p = l
  | [], _ => rfl
  | x :: l, h => by rw [List.takeWhile_cons, if_pos (h x List.mem_cons_self), takeWhile_all p l fun y hy => h y (List.mem_cons_of_mem _ hy)]
theorem size_list (s : ByteArray) : s.data.toList.length = s.size := by rw [Array.length_toList]; rfl
theorem word_step (l : List UInt8) (k : Nat) (hk : k ≤ l.length) (h : ∀ j, j < k → l.getD j 0 ≠ 47) : (k = l.length → wordL l = l) ∧ (k < l.length → l.getD k 0 = 47 → wordL l = l.take k) := by
  have h3 : ∀ c ∈ l.take k, (c != 47) = true := by
    intro c hc
    obtain ⟨j, hj, rfl⟩ := List.getElem_of_mem hc
    have hj' : j < k := by rw [List.length_take] at hj; omega
    have := h j hj'
    rw [getD_at _ _ _ (by omega)] at this
    simpa using this
  constructor
  · intro e
    rw [e, List.take_length] at h3
    exact takeWhile_all _ l h3
  · intro hlt e
    rw [getD_at _ _ _ hlt] at e
    have e2 : l = l.take k ++ 47 :: l.drop (k + 1) := by
      rw [← e, ← List.drop_eq_getElem_cons hlt, List.take_append_drop]
    have e4 : wordL (l.take k ++ 47 :: l.drop (k + 1)) = l.take k := by
      unfold wordL
      rw [List.takeWhile_append, takeWhile_all _ _ h3]
      simp
    rw [← e2] at e4
    exact e4
set_option maxHeartbeats 400000 in
theorem word_any (s : ByteArray) (w : World) (hs : s.size ≤ 1000000) : Calls Tryd.prog 11 #[.string s] w fun e w' => e = .returned (.string ⟨(wordOf s).toArray⟩) ∧ w = w' := by
  have HW : Hid (∀ k, k ≤ s.size → (∀ j, j < k → s.data.toList.getD j 0 ≠ 47) → (k = s.size → wordOf s = s.data.toList) ∧ (k < s.size → s.data.toList.getD k 0 = 47 → wordOf s = s.data.toList.take k)) := by
    intro k hk h
    have := word_step s.data.toList k (by rw [size_list]; exact hk) h
    rw [size_list] at this
    exact this
  go_enter Tryd.func11, Tryd.ntmps11
  go_wp2
  go_loop [3] (fun i => ∃ k : Nat, k ≤ s.size ∧ i = .int .i64 k ∧ Hid (∀ j, j < k → s.data.toList.getD j 0 ≠ 47)) (fun i => s.size - (intOf i).toNat)
  case atStart => exact ⟨0, Nat.zero_le _, rfl, fun j hj => by omega⟩
  case round =>
    obtain ⟨k, hk, rfl, HK⟩ := hrel
    by_cases hlt : k < s.size
    · have hl := size_list s
      have hg : s.data.toList.getD k 0 = s[k] := by rw [getD_at _ _ _ (by omega)]; rfl
      by_cases hc : s[k] = 47
      · have hc2 : (((s[k]).toNat : Int) == 47) = true := by rw [hc]; decide
        have HZ : Hid (wordOf s = s.data.toList.take k) := (HW.out k hk HK.out).2 hlt (by rw [hg, hc])
        clear hc hg hl
        go_wp2
        go_ret
        refine ⟨ret_str ?_, rfl⟩
        rw [HZ.out]
        exact ByteArray.ext (Array.toList_inj.1 ((ext_take s k).trans (by simp)))
      · have hc2 : (((s[k]).toNat : Int) == 47) = false := by
          rw [beq_eq_false_iff_ne]
          intro e
          exact hc (UInt8.toNat_inj.1 (by show (s[k]).toNat = 47; omega))
        have HN : Hid (∀ j, j < k + 1 → s.data.toList.getD j 0 ≠ 47) := fun j hj => by
          by_cases e : j = k
          · subst e; rw [hg]; exact hc
          · exact HK.out j (by omega)
        clear hc hg hl
        go_wp2
        go_round
        case rel => exact ⟨k + 1, by omega, by go_num, HN⟩
        case measure => simp [intOf]; omega
    · obtain rfl : k = s.size := by omega
      have HZ : Hid (wordOf s = s.data.toList) := (HW.out s.size (Nat.le_refl _) HK.out).1 rfl
      go_wp2
      go_ret
      exact ⟨ret_str (by rw [HZ.out]), rfl⟩
theorem LeftsAt.of_own {w : World} {base : Nat} {v : Value} {ls : List (Int × Int × Int)} {cs : List Value} (h : w.ownsRow base 37 3 v ls.length cs) (hc : cs = ls.flatMap fun x => [.int .u32 x.1, .int .i64 x.2.1, .int .i64 x.2.2]) : LeftsAt w v ls := by
  subst hc
  have h0 := h
  have hat : ∀ (l : List (Int × Int × Int)) (i : Nat), i < l.length → ((l.flatMap fun x => [Value.int .u32 x.1, .int .i64 x.2.1, .int .i64 x.2.2])[i * 3]? = some (.int .u32 (l.getD i (0, 0, 0)).1)) ∧ ((l.flatMap fun x => [Value.int .u32 x.1, .int .i64 x.2.1, .int .i64 x.2.2])[i * 3 + 1]? = some (.int .i64 (l.getD i (0, 0, 0)).2.1)) ∧ ((l.flatMap fun x => [Value.int .u32 x.1, .int .i64 x.2.1, .int .i64 x.2.2])[i * 3 + 2]? = some (.int .i64 (l.getD i (0, 0, 0)).2.2)) := by
    intro l
    induction l with
    | nil => intro i hi; simp at hi
    | cons p l ih =>
      intro i hi
      cases i with
      | zero => simp
      | succ i =>
        have := ih i (by simpa using hi)
        rw [show (i + 1) * 3 = i * 3 + 1 + 1 + 1 from by omega]
        simpa using this
  obtain ⟨hl, ⟨rfl, h1⟩ | ⟨g, cap, cur, rfl, h2, h3⟩⟩ := h
  · exact ⟨none, 0, by rw [h1], fun i hi => by omega⟩
  · refine ⟨_, cap, rfl, fun i hi => ⟨g, 0, rfl, ?_, ?_, ?_⟩⟩
    · rw [Nat.zero_add, h0.cellAt _ (by omega)]; exact (hat ls i hi).1
    · rw [Nat.zero_add, h0.cellAt _ (by omega)]; exact (hat ls i hi).2.1
    · rw [Nat.zero_add, h0.cellAt _ (by omega)]; exact (hat ls i hi).2.2
def usum (ls : List (Int × Int × Int)) : Int := (ls.map (·.2.2)).sum
theorem usum_bd : ∀ (ls : List (Int × Int × Int)), (∀ x ∈ ls, 0 ≤ x.2.2 ∧ x.2.2 ≤ 4294967295) → 0 ≤ usum ls ∧ usum ls ≤ 4294967295 * ls.length
  | [], _ => by simp [usum]
  | x :: l, h => by
    have h1 := usum_bd l fun y hy => h y (List.mem_cons_of_mem _ hy)
    have h2 := h x List.mem_cons_self
    unfold usum at *
    rw [List.map_cons, List.sum_cons, List.length_cons]
    omega
theorem usum_snoc (l : List (Int × Int × Int)) (x : Int × Int × Int) : usum (l ++ [x]) = usum l + x.2.2 := by simp [usum]
set_option maxHeartbeats 1000000 in
theorem total_any (v : Value) (ls : List (Int × Int × Int)) (w : World) (hL : LeftsAt w v ls) (hls : ∀ x ∈ ls, 0 ≤ x.2.2 ∧ x.2.2 ≤ 4294967295) (hll : ls.length ≤ 1000) :
    Calls Tryd.prog 9 #[v] w fun e w' => e = .returned (.int .i64 (usum ls)) ∧ Below w.heap.size w w' := by
  obtain ⟨a, c, rfl, hc⟩ := hL
  have HC := Lib.hid hc
  have HB : Hid (∀ k, k ≤ ls.length → 0 ≤ usum (ls.take k) ∧ usum (ls.take k) ≤ 4294967295000) := fun k hk => by
    have h1 := usum_bd (ls.take k) fun x hx => hls x (List.mem_of_mem_take hx)
    have h2 : (ls.take k).length = k := by rw [List.length_take]; omega
    rw [h2] at h1
    omega
  have HU := Lib.hid hls
  clear hc hls
  go_enter Tryd.func9, Tryd.ntmps9
  go_wp2_with fail
  go_loopw [3, 8] (fun t i wr => ∃ k : Nat, k ≤ ls.length ∧ i = .int .i64 k ∧ t = .int .i64 (usum (ls.take k)) ∧ Below w.heap.size w wr) (fun _ i _ => ls.length - (intOf i).toNat)
  case atStart => exact ⟨0, by omega, rfl, by simp [usum], Below.refl _ _⟩
  case round =>
    obtain ⟨k, hk, rfl, rfl, hbr⟩ := hrel
    have BR := Lib.hid hbr
    have hb0 := HB.out k hk
    clear hbr
    by_cases hlt : k < ls.length
    · obtain ⟨b, o, rfl, h1, h2, h3⟩ := HC.out k hlt
      replace h1 := stays BR.out h1
      replace h2 := stays BR.out h2
      replace h3 := stays BR.out h3
      have hx := HU.out _ (List.getElem_mem hlt)
      rw [getD_at _ _ _ hlt] at h1 h2 h3
      have HT : Hid (usum (ls.take (k + 1)) = usum (ls.take k) + ls[k].2.2) := by
        unfold Hid
        rw [List.take_succ_eq_append_getElem hlt, usum_snoc]
      have hb1 := HB.out (k + 1) (by omega)
      rw [HT.out] at hb1
      generalize ls[k] = x at *
      obtain ⟨id, ex, un⟩ := x
      simp only at h1 h2 h3 hx HT hb1
      have B2 := Lib.hid (onward (below_alloc _ (.cells #[.int .u32 id, .int .i64 ex, .int .i64 un] 37)) BR.out)
      clear HB
      generalize usum (ls.take k) = S at *
      go_wp2
      go_roundw
      case rel => exact ⟨k + 1, by omega, by go_num, by rw [HT.out], B2.out⟩
      case measure => simp [intOf]; omega
    · obtain rfl : k = ls.length := by omega
      rw [List.take_length] at *
      go_wp2
      go_ret
      exact ⟨rfl, BR.out⟩
end Go.Proofs.YtbjofejloeppkaaDoor
