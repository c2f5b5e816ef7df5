/- The walk of the law AcctBack. -/
import Derived.Test.YtblmejdgdcihbaaDoorAcH
namespace Go.Proofs.YtblmejdgdcihbaaDoor
open Go.RowKit Go.Shelf Acct
set_option linter.unusedVariables false
set_option linter.unusedSimpArgs false
theorem nameB_len (w : ByteArray) (ns : List Int) : (nameB w ns).size ≤ 32 := by
  unfold nameB
  rw [sizeMk]
  unfold nameL
  split
  · rename_i h; exact h.2
  · simp
theorem named_len {l wd : List UInt8} {ns : List Int} (h : Named l wd ns) : ns.length ≤ 32 ∧ wd.length ≤ 32 := by
  have h2 := h.is
  have h3 := h2.2.2
  rw [h2.2.1, List.length_append] at h3
  have h4 : ∀ (l : List Int), l.length ≤ (partsL l).length := by
    intro l
    induction l with
    | nil => simp
    | cons x l ih => simp [partsL]; omega
  have := h4 ns
  omega
theorem named_name {t wd : List UInt8} {ns : List Int} (h : Named t wd ns) : nameB ⟨wd.toArray⟩ ns = ⟨t.toArray⟩ := by
  unfold nameB
  rw [show (ByteArray.mk wd.toArray).data.toList = wd from by simp, h.1]
theorem unitsB_no {l : List UInt8} (h : ∀ wd ns, ¬ Named l wd ns) : unitsB l = false := units_no h
set_option maxHeartbeats 2000000 in
set_option maxRecDepth 1000000 in
theorem back_far0 (word text : ByteArray) (a : Option Addr) (c : Nat) (ns : List Int) (w : World)  (hx : 100 < word.size) : Calls Tryd.prog 5 #[.string word, .slice a ns.length c, .string text] w fun e w' => e = .returned (.bool true) ∧ Below w.heap.size w w' := by
  go_enter Tryd.func5, Tryd.ntmps5
  go_wp2_with fail
  go_ret
  exact ⟨rfl, Below.refl _ _⟩
set_option maxHeartbeats 2000000 in
set_option maxRecDepth 1000000 in
theorem back_far1 (word text : ByteArray) (a : Option Addr) (c : Nat) (ns : List Int) (w : World) (h0 : word.size ≤ 100) (hx : 20 < ns.length) : Calls Tryd.prog 5 #[.string word, .slice a ns.length c, .string text] w fun e w' => e = .returned (.bool true) ∧ Below w.heap.size w w' := by
  have d0 : decide ((100 : Int) < (word.size : Int)) = false := decide_eq_false (by omega)
  go_enter Tryd.func5, Tryd.ntmps5
  go_wp2_with fail
  go_ret
  exact ⟨rfl, Below.refl _ _⟩
set_option maxHeartbeats 2000000 in
set_option maxRecDepth 1000000 in
theorem back_far2 (word text : ByteArray) (a : Option Addr) (c : Nat) (ns : List Int) (w : World) (h0 : word.size ≤ 100) (h1 : ns.length ≤ 20) (hx : 100 < text.size) : Calls Tryd.prog 5 #[.string word, .slice a ns.length c, .string text] w fun e w' => e = .returned (.bool true) ∧ Below w.heap.size w w' := by
  have d0 : decide ((100 : Int) < (word.size : Int)) = false := decide_eq_false (by omega)
  have d1 : decide ((20 : Int) < (ns.length : Int)) = false := decide_eq_false (by omega)
  go_enter Tryd.func5, Tryd.ntmps5
  go_wp2_with fail
  go_ret
  exact ⟨rfl, Below.refl _ _⟩
set_option maxHeartbeats 2000000 in
set_option maxRecDepth 1000000 in
theorem back_0 (word text : ByteArray) (a : Option Addr) (c : Nat) (ns : List Int) (w : World) (hE : EnvA w) (hI : IntsAt w (.slice a ns.length c) ns) (hn : ∀ x ∈ ns, inInt x) (h0 : word.size ≤ 100) (h1 : ns.length ≤ 20) (h2 : text.size ≤ 100) (hq : (nameB word ns).data.toList = []) (wd : List UInt8) (ks : List Int) (hT : Named text.data.toList wd ks) : Calls Tryd.prog 5 #[.string word, .slice a ns.length c, .string text] w fun e w' => e = .returned (.bool true) ∧ Below w.heap.size w w' := by
  have HE := Lib.hid hE
  have HI := Lib.hid hI
  have HN := Lib.hid hn
  clear hE hI hn
  have d0 : decide ((100 : Int) < (word.size : Int)) = false := decide_eq_false (by omega)
  have d1 : decide ((20 : Int) < (ns.length : Int)) = false := decide_eq_false (by omega)
  have d2 : decide ((100 : Int) < (text.size : Int)) = false := decide_eq_false (by omega)
  have HT := Lib.hid hT
  have hql := nameB_len word ns
  have HNO : Hid (∀ wd ks, ¬ Named (nameB word ns).data.toList wd ks) := by rw [hq]; exact not_named_empty
  have e1 : (nameB word ns).toList.isEmpty = true := by rw [baIsEmpty, hq]; rfl
  clear hq hT
  go_enter Tryd.func5, Tryd.ntmps5
  go_wp2_with fail
  refine (name_any word _ ns _ HE.out.pow HI.out HN.out (by omega) (by omega)).mono ?_
  rintro e w1 ⟨rfl, hb⟩
  have B1 := Lib.hid hb
  have I1 := Lib.hid (HI.out.below hb)
  clear hb HI
  generalize nameB word ns = q at *
  go_wp2_with fail
  refine (aparse_no HNO.out _ (HE.out.below B1.out) (by omega)).mono ?_
  rintro e w2 ⟨rfl, hb⟩
  have B2 := Lib.hid (onward hb B1.out)
  clear hb B1 I1
  go_wp2_with fail
  refine (aparse_yes HT.out _ (HE.out.below B2.out) (by omega)).mono ?_
  rintro e w4 ⟨v4, rfl, hi, hb⟩
  have B4 := Lib.hid (onward hb B2.out)
  have I4 := Lib.hid hi
  obtain ⟨l1, l2⟩ := named_len HT.out
  have hws := sizeMk wd
  clear hb hi
  go_wp2_with fail
  refine (name_any ⟨wd.toArray⟩ _ ks _ (HE.out.below B4.out).pow I4.out HT.out.2.2 (by omega) (by omega)).mono ?_
  rintro e w5 ⟨rfl, hb⟩
  rw [named_name HT.out, ← mkL text]
  have e5 : text.toList.isEmpty = false := by rw [baIsEmpty]; simpa using HT.out.2.1
  have B5 := Lib.hid (onward hb B4.out)
  clear hb B4 I4 hws
  go_wp2_with fail
  refine (agoes_tail w _ HE.out B5.out).mono ?_
  rintro e w9 ⟨rfl, hb⟩
  have B9 := Lib.hid hb
  clear hb
  go_wp2
  go_ret
  exact ⟨rfl, B9.out⟩
set_option maxHeartbeats 2000000 in
set_option maxRecDepth 1000000 in
theorem back_1 (word text : ByteArray) (a : Option Addr) (c : Nat) (ns : List Int) (w : World) (hE : EnvA w) (hI : IntsAt w (.slice a ns.length c) ns) (hn : ∀ x ∈ ns, inInt x) (h0 : word.size ≤ 100) (h1 : ns.length ≤ 20) (h2 : text.size ≤ 100) (hq : (nameB word ns).data.toList = []) (hT : ∀ wd ks, ¬ Named text.data.toList wd ks) : Calls Tryd.prog 5 #[.string word, .slice a ns.length c, .string text] w fun e w' => e = .returned (.bool true) ∧ Below w.heap.size w w' := by
  have HE := Lib.hid hE
  have HI := Lib.hid hI
  have HN := Lib.hid hn
  clear hE hI hn
  have d0 : decide ((100 : Int) < (word.size : Int)) = false := decide_eq_false (by omega)
  have d1 : decide ((20 : Int) < (ns.length : Int)) = false := decide_eq_false (by omega)
  have d2 : decide ((100 : Int) < (text.size : Int)) = false := decide_eq_false (by omega)
  have HT := Lib.hid hT
  have hql := nameB_len word ns
  have HNO : Hid (∀ wd ks, ¬ Named (nameB word ns).data.toList wd ks) := by rw [hq]; exact not_named_empty
  have e1 : (nameB word ns).toList.isEmpty = true := by rw [baIsEmpty, hq]; rfl
  clear hq hT
  go_enter Tryd.func5, Tryd.ntmps5
  go_wp2_with fail
  refine (name_any word _ ns _ HE.out.pow HI.out HN.out (by omega) (by omega)).mono ?_
  rintro e w1 ⟨rfl, hb⟩
  have B1 := Lib.hid hb
  have I1 := Lib.hid (HI.out.below hb)
  clear hb HI
  generalize nameB word ns = q at *
  go_wp2_with fail
  refine (aparse_no HNO.out _ (HE.out.below B1.out) (by omega)).mono ?_
  rintro e w2 ⟨rfl, hb⟩
  have B2 := Lib.hid (onward hb B1.out)
  clear hb B1 I1
  go_wp2_with fail
  refine (aparse_no HT.out _ (HE.out.below B2.out) (by omega)).mono ?_
  rintro e w4 ⟨rfl, hb⟩
  have B4 := Lib.hid (onward hb B2.out)
  clear hb
  go_wp2_with fail
  refine (units_any text _ (HE.out.below B4.out) (by omega)).mono ?_
  rintro e w5 ⟨rfl, hb⟩
  rw [unitsB_no HT.out]
  have B5 := Lib.hid (onward hb B4.out)
  clear hb B4
  go_wp2_with fail
  refine (agoes_tail w _ HE.out B5.out).mono ?_
  rintro e w9 ⟨rfl, hb⟩
  have B9 := Lib.hid hb
  clear hb
  go_wp2
  go_ret
  exact ⟨rfl, B9.out⟩
set_option maxHeartbeats 2000000 in
set_option maxRecDepth 1000000 in
theorem back_2 (word text : ByteArray) (a : Option Addr) (c : Nat) (ns : List Int) (w : World) (hE : EnvA w) (hI : IntsAt w (.slice a ns.length c) ns) (hn : ∀ x ∈ ns, inInt x) (h0 : word.size ≤ 100) (h1 : ns.length ≤ 20) (h2 : text.size ≤ 100) (hq : (nameB word ns).data.toList ≠ []) (wd : List UInt8) (ks : List Int) (hT : Named text.data.toList wd ks) : Calls Tryd.prog 5 #[.string word, .slice a ns.length c, .string text] w fun e w' => e = .returned (.bool true) ∧ Below w.heap.size w w' := by
  have HE := Lib.hid hE
  have HI := Lib.hid hI
  have HN := Lib.hid hn
  clear hE hI hn
  have d0 : decide ((100 : Int) < (word.size : Int)) = false := decide_eq_false (by omega)
  have d1 : decide ((20 : Int) < (ns.length : Int)) = false := decide_eq_false (by omega)
  have d2 : decide ((100 : Int) < (text.size : Int)) = false := decide_eq_false (by omega)
  have HT := Lib.hid hT
  have hql := nameB_len word ns
  have HQN := Lib.hid (name_named HN.out hq)
  have e1 : (nameB word ns).toList.isEmpty = false := by rw [baIsEmpty]; simpa using hq
  clear hq hT
  go_enter Tryd.func5, Tryd.ntmps5
  go_wp2_with fail
  refine (name_any word _ ns _ HE.out.pow HI.out HN.out (by omega) (by omega)).mono ?_
  rintro e w1 ⟨rfl, hb⟩
  have B1 := Lib.hid hb
  have I1 := Lib.hid (HI.out.below hb)
  clear hb HI
  generalize nameB word ns = q at *
  go_wp2_with fail
  refine (aparse_yes HQN.out _ (HE.out.below B1.out) (by omega)).mono ?_
  rintro e w2 ⟨v2, rfl, hi, hb⟩
  rw [← mkL word]
  have B2 := Lib.hid (onward hb B1.out)
  have I2 := Lib.hid (I1.out.below hb)
  have J2 := Lib.hid hi
  clear hb hi B1 I1
  go_wp2_with fail
  refine (nums_any _ _ ns ns _ J2.out I2.out (by omega) (by omega)).mono ?_
  rintro e w3 ⟨rfl, hb⟩
  rw [show decide (ns = ns) = true from decide_eq_true rfl]
  have B3 := Lib.hid (onward hb B2.out)
  clear hb B2 I2 J2
  go_wp2_with fail
  refine (aparse_yes HT.out _ (HE.out.below B3.out) (by omega)).mono ?_
  rintro e w4 ⟨v4, rfl, hi, hb⟩
  have B4 := Lib.hid (onward hb B3.out)
  have I4 := Lib.hid hi
  obtain ⟨l1, l2⟩ := named_len HT.out
  have hws := sizeMk wd
  clear hb hi
  go_wp2_with fail
  refine (name_any ⟨wd.toArray⟩ _ ks _ (HE.out.below B4.out).pow I4.out HT.out.2.2 (by omega) (by omega)).mono ?_
  rintro e w5 ⟨rfl, hb⟩
  rw [named_name HT.out, ← mkL text]
  have e5 : text.toList.isEmpty = false := by rw [baIsEmpty]; simpa using HT.out.2.1
  have B5 := Lib.hid (onward hb B4.out)
  clear hb B4 I4 hws
  go_wp2_with fail
  refine (agoes_tail w _ HE.out B5.out).mono ?_
  rintro e w9 ⟨rfl, hb⟩
  have B9 := Lib.hid hb
  clear hb
  go_wp2
  go_ret
  exact ⟨rfl, B9.out⟩
set_option maxHeartbeats 2000000 in
set_option maxRecDepth 1000000 in
theorem back_3 (word text : ByteArray) (a : Option Addr) (c : Nat) (ns : List Int) (w : World) (hE : EnvA w) (hI : IntsAt w (.slice a ns.length c) ns) (hn : ∀ x ∈ ns, inInt x) (h0 : word.size ≤ 100) (h1 : ns.length ≤ 20) (h2 : text.size ≤ 100) (hq : (nameB word ns).data.toList ≠ []) (hT : ∀ wd ks, ¬ Named text.data.toList wd ks) : Calls Tryd.prog 5 #[.string word, .slice a ns.length c, .string text] w fun e w' => e = .returned (.bool true) ∧ Below w.heap.size w w' := by
  have HE := Lib.hid hE
  have HI := Lib.hid hI
  have HN := Lib.hid hn
  clear hE hI hn
  have d0 : decide ((100 : Int) < (word.size : Int)) = false := decide_eq_false (by omega)
  have d1 : decide ((20 : Int) < (ns.length : Int)) = false := decide_eq_false (by omega)
  have d2 : decide ((100 : Int) < (text.size : Int)) = false := decide_eq_false (by omega)
  have HT := Lib.hid hT
  have hql := nameB_len word ns
  have HQN := Lib.hid (name_named HN.out hq)
  have e1 : (nameB word ns).toList.isEmpty = false := by rw [baIsEmpty]; simpa using hq
  clear hq hT
  go_enter Tryd.func5, Tryd.ntmps5
  go_wp2_with fail
  refine (name_any word _ ns _ HE.out.pow HI.out HN.out (by omega) (by omega)).mono ?_
  rintro e w1 ⟨rfl, hb⟩
  have B1 := Lib.hid hb
  have I1 := Lib.hid (HI.out.below hb)
  clear hb HI
  generalize nameB word ns = q at *
  go_wp2_with fail
  refine (aparse_yes HQN.out _ (HE.out.below B1.out) (by omega)).mono ?_
  rintro e w2 ⟨v2, rfl, hi, hb⟩
  rw [← mkL word]
  have B2 := Lib.hid (onward hb B1.out)
  have I2 := Lib.hid (I1.out.below hb)
  have J2 := Lib.hid hi
  clear hb hi B1 I1
  go_wp2_with fail
  refine (nums_any _ _ ns ns _ J2.out I2.out (by omega) (by omega)).mono ?_
  rintro e w3 ⟨rfl, hb⟩
  rw [show decide (ns = ns) = true from decide_eq_true rfl]
  have B3 := Lib.hid (onward hb B2.out)
  clear hb B2 I2 J2
  go_wp2_with fail
  refine (aparse_no HT.out _ (HE.out.below B3.out) (by omega)).mono ?_
  rintro e w4 ⟨rfl, hb⟩
  have B4 := Lib.hid (onward hb B3.out)
  clear hb
  go_wp2_with fail
  refine (units_any text _ (HE.out.below B4.out) (by omega)).mono ?_
  rintro e w5 ⟨rfl, hb⟩
  rw [unitsB_no HT.out]
  have B5 := Lib.hid (onward hb B4.out)
  clear hb B4
  go_wp2_with fail
  refine (agoes_tail w _ HE.out B5.out).mono ?_
  rintro e w9 ⟨rfl, hb⟩
  have B9 := Lib.hid hb
  clear hb
  go_wp2
  go_ret
  exact ⟨rfl, B9.out⟩
theorem back_any (word text : ByteArray) (v : Value) (ns : List Int) (w : World) (hE : EnvA w) (hI : IntsAt w v ns) (hn : ∀ x ∈ ns, inInt x) : Calls Tryd.prog 5 #[.string word, v, .string text] w fun e w' => e = .returned (.bool true) ∧ Below w.heap.size w w' := by
  obtain ⟨a, c, rfl⟩ := ints_form hI
  by_cases h0 : 100 < word.size
  · exact back_far0 _ _ _ _ _ _ h0
  by_cases h1 : 20 < ns.length
  · exact back_far1 _ _ _ _ _ _ (by omega) h1
  by_cases h2 : 100 < text.size
  · exact back_far2 _ _ _ _ _ _ (by omega) (by omega) h2
  by_cases hq : (nameB word ns).data.toList = []
  · by_cases hT : ∃ wd ks, Named text.data.toList wd ks
    · obtain ⟨wd, ks, hT⟩ := hT
      exact back_0 _ _ _ _ _ _ hE hI hn (by omega) (by omega) (by omega) hq _ _ hT
    · exact back_1 _ _ _ _ _ _ hE hI hn (by omega) (by omega) (by omega) hq fun wd ks h => hT ⟨wd, ks, h⟩
  · by_cases hT : ∃ wd ks, Named text.data.toList wd ks
    · obtain ⟨wd, ks, hT⟩ := hT
      exact back_2 _ _ _ _ _ _ hE hI hn (by omega) (by omega) (by omega) hq _ _ hT
    · exact back_3 _ _ _ _ _ _ hE hI hn (by omega) (by omega) (by omega) hq fun wd ks h => hT ⟨wd, ks, h⟩
end Go.Proofs.YtblmejdgdcihbaaDoor
