/- The walks of the laws AcctNames, AcctParses, AcctBack, AcctApart. -/
import Derived.Test.YtblmejdgdcihbaaDoorAcG
namespace Go.Proofs.YtblmejdgdcihbaaDoor
open Go.RowKit Go.Shelf Acct
set_option linter.unusedVariables false
set_option linter.unusedSimpArgs false
theorem agoes_tail (w w1 : World) (hE : EnvA w) (hb : Below w.heap.size w w1) : Calls Tryd.prog 16 #[] w1 fun e w' => e = .returned (.bool true) ∧ Below w.heap.size w w' :=
  (agoes_any w1 (hE.below hb)).mono fun _ _ ⟨h, b⟩ => ⟨h, onward b hb⟩
theorem ints_form {w : World} {v : Value} {ns : List Int} (h : IntsAt w v ns) : ∃ a c, v = .slice a ns.length c := by
  obtain ⟨a, c, rfl, _⟩ := h
  exact ⟨a, c, rfl⟩
theorem name_named {word : ByteArray} {ns : List Int} (hn : ∀ n ∈ ns, inInt n) (h : (nameB word ns).data.toList ≠ []) : Named (nameB word ns).data.toList word.data.toList ns := by
  rw [nameB_list] at *
  exact ⟨rfl, h, hn⟩
set_option maxHeartbeats 1000000 in
set_option maxRecDepth 1000000 in
theorem names_any (word : ByteArray) (v : Value) (ns : List Int) (w : World) (hE : EnvA w) (hI : IntsAt w v ns) (hn : ∀ n ∈ ns, inInt n) : Calls Tryd.prog 3 #[.string word, v] w fun e w' => e = .returned (.bool true) ∧ Below w.heap.size w w' := by
  have HE := Lib.hid hE
  have HI := Lib.hid hI
  have HN := Lib.hid hn
  obtain ⟨a, c, rfl⟩ := ints_form hI
  clear hE hI hn
  by_cases h1 : 100 < word.size
  · go_enter Tryd.func3, Tryd.ntmps3
    go_wp2_with fail
    go_ret
    exact ⟨rfl, Below.refl _ _⟩
  by_cases h2 : 20 < ns.length
  · have d1 : decide ((100 : Int) < (word.size : Int)) = false := decide_eq_false (by omega)
    go_enter Tryd.func3, Tryd.ntmps3
    go_wp2_with fail
    go_ret
    exact ⟨rfl, Below.refl _ _⟩
  have d1 : decide ((100 : Int) < (word.size : Int)) = false := decide_eq_false (by omega)
  have d2 : decide ((20 : Int) < (ns.length : Int)) = false := decide_eq_false (by omega)
  go_enter Tryd.func3, Tryd.ntmps3
  go_wp2_with fail
  refine (name_any word _ ns _ HE.out.pow HI.out HN.out (by omega) (by omega)).mono ?_
  rintro e w1 ⟨rfl, hb⟩
  have B1 := Lib.hid hb
  have I1 := Lib.hid (HI.out.below hb)
  clear hb
  go_wp2_with fail
  refine (rname_any word _ ns _ I1.out HN.out (by omega) (by omega)).mono ?_
  rintro e w2 ⟨rfl, rfl⟩
  generalize nameB word ns = q
  go_wp2_with fail
  refine (agoes_tail w _ HE.out B1.out).mono ?_
  rintro e w3 ⟨rfl, hb⟩
  have B3 := Lib.hid hb
  clear hb
  go_wp2
  go_ret
  exact ⟨rfl, B3.out⟩
set_option maxHeartbeats 1000000 in
set_option maxRecDepth 1000000 in
theorem parses_any (name : ByteArray) (w : World) (hE : EnvA w) : Calls Tryd.prog 4 #[.string name] w fun e w' => e = .returned (.bool true) ∧ Below w.heap.size w w' := by
  have HE := Lib.hid hE
  clear hE
  by_cases h1 : 100 < name.size
  · go_enter Tryd.func4, Tryd.ntmps4
    go_wp2_with fail
    go_ret
    exact ⟨rfl, Below.refl _ _⟩
  by_cases hN : ∃ wd ns, Named name.data.toList wd ns
  · obtain ⟨wd, ns, hN⟩ := hN
    have HNN := Lib.hid hN
    have hl : ns.length ≤ 1000000 := by
      have h2 := hN.is
      have h3 := h2.2.2
      rw [h2.2.1, List.length_append] at h3
      have h4 : ∀ (l : List Int), l.length ≤ (partsL l).length := by
        intro l
        induction l with
        | nil => simp
        | cons x l ih => simp [partsL]; omega
      have := h4 ns
      omega
    clear hN
    go_enter Tryd.func4, Tryd.ntmps4
    go_wp2_with fail
    refine (aparse_yes HNN.out _ HE.out (by omega)).mono ?_
    rintro e w1 ⟨v1, rfl, hi, hb⟩
    have B1 := Lib.hid hb
    have I1 := Lib.hid hi
    clear hb hi
    go_wp2_with fail
    refine (rparse_yes HNN.out _ (by omega)).mono ?_
    rintro e w2 ⟨v2, rfl, hi, hb⟩
    have B2 := Lib.hid (onward hb B1.out)
    have I2 := Lib.hid (I1.out.below hb)
    have J2 := Lib.hid hi
    clear hb hi B1 I1
    go_wp2_with fail
    refine (nums_any _ _ ns ns _ I2.out J2.out hl hl).mono ?_
    rintro e w3 ⟨rfl, hb⟩
    rw [show decide (ns = ns) = true from decide_eq_true rfl]
    have B3 := Lib.hid (onward hb B2.out)
    clear hb B2 I2 J2
    go_wp2_with fail
    refine (units_any name _ (HE.out.below B3.out) (by omega)).mono ?_
    rintro e w4 ⟨rfl, hb⟩
    have B4 := Lib.hid (onward hb B3.out)
    clear hb B3
    go_wp2_with fail
    refine (runits_any name _ (by omega)).mono ?_
    rintro e w5 ⟨rfl, hb⟩
    have B5 := Lib.hid (onward hb B4.out)
    clear hb B4
    generalize unitsB name.data.toList = q
    go_wp2_with fail
    refine (agoes_tail w _ HE.out B5.out).mono ?_
    rintro e w6 ⟨rfl, hb⟩
    have B6 := Lib.hid hb
    clear hb
    go_wp2
    go_ret
    exact ⟨rfl, B6.out⟩
  · have HNN : Hid (∀ wd ns, ¬ Named name.data.toList wd ns) := fun wd ns h => hN ⟨wd, ns, h⟩
    clear hN
    go_enter Tryd.func4, Tryd.ntmps4
    go_wp2_with fail
    refine (aparse_no HNN.out _ HE.out (by omega)).mono ?_
    rintro e w1 ⟨rfl, hb⟩
    have B1 := Lib.hid hb
    clear hb
    go_wp2_with fail
    refine (rparse_no HNN.out _ (by omega)).mono ?_
    rintro e w2 ⟨rfl, hb⟩
    have B2 := Lib.hid (onward hb B1.out)
    clear hb B1
    go_wp2_with fail
    refine (nums_any _ _ [] [] _ (nil_ints _) (nil_ints _) (by simp) (by simp)).mono ?_
    rintro e w3 ⟨rfl, hb⟩
    rw [show decide (([] : List Int) = []) = true from rfl]
    have B3 := Lib.hid (onward hb B2.out)
    clear hb B2
    go_wp2_with fail
    refine (units_any name _ (HE.out.below B3.out) (by omega)).mono ?_
    rintro e w4 ⟨rfl, hb⟩
    have B4 := Lib.hid (onward hb B3.out)
    clear hb B3
    go_wp2_with fail
    refine (runits_any name _ (by omega)).mono ?_
    rintro e w5 ⟨rfl, hb⟩
    have B5 := Lib.hid (onward hb B4.out)
    clear hb B4
    generalize unitsB name.data.toList = q
    go_wp2_with fail
    refine (agoes_tail w _ HE.out B5.out).mono ?_
    rintro e w6 ⟨rfl, hb⟩
    have B6 := Lib.hid hb
    clear hb
    go_wp2
    go_ret
    exact ⟨rfl, B6.out⟩
set_option maxHeartbeats 2000000 in
set_option maxRecDepth 1000000 in
theorem apart_any (a b : ByteArray) (v1 v2 : Value) (m n : List Int) (w : World) (hE : EnvA w) (hI : IntsAt w v1 m) (hJ : IntsAt w v2 n) (hm : ∀ x ∈ m, inInt x) (hn : ∀ x ∈ n, inInt x) :
    Calls Tryd.prog 6 #[.string a, .string b, v1, v2] w fun e w' => e = .returned (.bool true) ∧ Below w.heap.size w w' := by
  have HE := Lib.hid hE
  have HI := Lib.hid hI
  have HJ := Lib.hid hJ
  have HM := Lib.hid hm
  have HN := Lib.hid hn
  obtain ⟨a1, c1, rfl⟩ := ints_form hI
  obtain ⟨a2, c2, rfl⟩ := ints_form hJ
  clear hE hI hJ hm hn
  by_cases h1 : 30 < a.size
  · go_enter Tryd.func6, Tryd.ntmps6
    go_wp2_with fail
    go_ret
    exact ⟨rfl, Below.refl _ _⟩
  have d1 : decide ((30 : Int) < (a.size : Int)) = false := decide_eq_false (by omega)
  by_cases h2 : 30 < b.size
  · go_enter Tryd.func6, Tryd.ntmps6
    go_wp2_with fail
    go_ret
    exact ⟨rfl, Below.refl _ _⟩
  have d2 : decide ((30 : Int) < (b.size : Int)) = false := decide_eq_false (by omega)
  by_cases h3 : 5 < m.length
  · go_enter Tryd.func6, Tryd.ntmps6
    go_wp2_with fail
    go_ret
    exact ⟨rfl, Below.refl _ _⟩
  have d3 : decide ((5 : Int) < (m.length : Int)) = false := decide_eq_false (by omega)
  by_cases h4 : 5 < n.length
  · go_enter Tryd.func6, Tryd.ntmps6
    go_wp2_with fail
    go_ret
    exact ⟨rfl, Below.refl _ _⟩
  have d4 : decide ((5 : Int) < (n.length : Int)) = false := decide_eq_false (by omega)
  go_enter Tryd.func6, Tryd.ntmps6
  go_wp2_with fail
  refine (name_any a _ m _ HE.out.pow HI.out HM.out (by omega) (by omega)).mono ?_
  rintro e w1 ⟨rfl, hb⟩
  have B1 := Lib.hid hb
  have I1 := Lib.hid (HI.out.below hb)
  have J1 := Lib.hid (HJ.out.below hb)
  clear hb
  go_wp2_with fail
  refine (name_any b _ n _ (HE.out.below B1.out).pow J1.out HN.out (by omega) (by omega)).mono ?_
  rintro e w2 ⟨rfl, hb⟩
  have B2 := Lib.hid (onward hb B1.out)
  have I2 := Lib.hid (I1.out.below hb)
  have J2 := Lib.hid (J1.out.below hb)
  clear hb B1 I1 J1
  have HX : Hid ((nameB a m).data.toList ≠ [] → Named (nameB a m).data.toList a.data.toList m) := name_named HM.out
  have HY : Hid ((nameB b n).data.toList ≠ [] → Named (nameB b n).data.toList b.data.toList n) := name_named HN.out
  have HQ : Hid (a = b → m = n → nameB a m = nameB b n) := fun h1 h2 => by rw [h1, h2]
  generalize nameB a m = x at *
  generalize nameB b n = y at *
  by_cases hx : x.data.toList = []
  · have e1 : x.toList.isEmpty = true := by rw [baIsEmpty, hx]; rfl
    clear hx
    go_wp2_with fail
    refine (agoes_tail w _ HE.out B2.out).mono ?_
    rintro e w6 ⟨rfl, hb⟩
    have B6 := Lib.hid hb
    clear hb
    go_wp2
    go_ret
    exact ⟨rfl, B6.out⟩
  have e1 : x.toList.isEmpty = false := by rw [baIsEmpty]; simpa using hx
  have NX := Lib.hid (HX.out hx)
  clear hx HX
  by_cases hy : y.data.toList = []
  · have e2 : y.toList.isEmpty = true := by rw [baIsEmpty, hy]; rfl
    clear hy
    go_wp2_with fail
    refine (agoes_tail w _ HE.out B2.out).mono ?_
    rintro e w6 ⟨rfl, hb⟩
    have B6 := Lib.hid hb
    clear hb
    go_wp2
    go_ret
    exact ⟨rfl, B6.out⟩
  have e2 : y.toList.isEmpty = false := by rw [baIsEmpty]; simpa using hy
  have NY := Lib.hid (HY.out hy)
  clear hy HY
  by_cases hxy : x = y
  · subst hxy
    obtain ⟨h5, h6⟩ := NX.out.only NY.out
    have h7 : a = b := ba_ext h5
    subst h7
    subst h6
    clear h5
    go_wp2_with fail
    refine (nums_any _ _ m m _ I2.out J2.out (by omega) (by omega)).mono ?_
    rintro e w3 ⟨rfl, hb⟩
    rw [show decide (m = m) = true from decide_eq_true rfl]
    have B3 := Lib.hid (onward hb B2.out)
    clear hb B2 I2 J2
    go_wp2_with fail
    refine (agoes_tail w _ HE.out B3.out).mono ?_
    rintro e w6 ⟨rfl, hb⟩
    have B6 := Lib.hid hb
    clear hb
    go_wp2
    go_ret
    exact ⟨rfl, B6.out⟩
  · have e3 := toList_ne hxy
    by_cases hab : a = b
    · subst hab
      have hmn : ¬ m = n := fun h => hxy (HQ.out rfl h)
      have e4 : decide (m = n) = false := decide_eq_false hmn
      clear hxy hmn
      go_wp2_with fail
      refine (nums_any _ _ m n _ I2.out J2.out (by omega) (by omega)).mono ?_
      rintro e w3 ⟨rfl, hb⟩
      rw [e4]
      have B3 := Lib.hid (onward hb B2.out)
      clear hb B2 I2 J2
      go_wp2_with fail
      refine (agoes_tail w _ HE.out B3.out).mono ?_
      rintro e w6 ⟨rfl, hb⟩
      have B6 := Lib.hid hb
      clear hb
      go_wp2
      go_ret
      exact ⟨rfl, B6.out⟩
    · have e4 := toList_ne hab
      clear hxy hab
      go_wp2_with fail
      refine (agoes_tail w _ HE.out B2.out).mono ?_
      rintro e w6 ⟨rfl, hb⟩
      have B6 := Lib.hid hb
      clear hb
      go_wp2
      go_ret
      exact ⟨rfl, B6.out⟩
end Go.Proofs.YtblmejdgdcihbaaDoor
