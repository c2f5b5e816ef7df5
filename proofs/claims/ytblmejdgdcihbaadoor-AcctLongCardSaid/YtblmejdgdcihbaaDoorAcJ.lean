/- The walk of the law AcctLong. -/
import Derived.Test.YtblmejdgdcihbaaDoorAcI
import Derived.Laws.AppendOwnNone
namespace Go.Proofs.YtblmejdgdcihbaaDoor
open Go.RowKit Go.Shelf Acct
set_option linter.unusedVariables false
set_option linter.unusedSimpArgs false
/-- a name with one number more -/
def LongR (x y : ByteArray) : Prop :=
  (x.data.toList = [] ∧ y.data.toList = []) ∨ (x.data.toList ≠ [] ∧ y.data.toList = [] ∧ 10 < x.size) ∨
    (x.data.toList ≠ [] ∧ y.data.toList ≠ [] ∧ x.size < y.size ∧ y.size ≤ 32 ∧ y.data.toList.take x.size = x.data.toList ∧ y.data.toList.getD x.size 0 = 47)
theorem long_names (word : ByteArray) (ns : List Int) (more : Int) (hm : inInt more) : LongR (nameB word ns) (nameB word (ns ++ [more])) := by
  have hit : (Lib.itoa more).length ≤ 20 := by
    rcases itoa_form hm with ⟨_, h2, h3⟩ | ⟨_, h2, h3⟩ <;> rw [h2]
    · rw [List.length_cons]; omega
    · omega
  have hs1 := size_list (nameB word ns)
  have hs2 := size_list (nameB word (ns ++ [more]))
  unfold LongR
  rw [← hs1, ← hs2, nameB_list, nameB_list]
  generalize word.data.toList = w
  by_cases hw : lettersL w = true
  · have hne : w ≠ [] := by rintro rfl; cases hw
    by_cases h1 : (w ++ partsL ns).length ≤ 32
    · rw [nameL_yes hw h1]
      have hx : w ++ partsL ns ≠ [] := by simp [hne]
      have hlen : (w ++ partsL (ns ++ [more])).length = (w ++ partsL ns).length + (Lib.itoa more).length + 1 := by rw [partsL_snoc]; simp; omega
      by_cases h2 : (w ++ partsL (ns ++ [more])).length ≤ 32
      · rw [nameL_yes hw h2]
        refine .inr (.inr ⟨hx, by simp [hne], by omega, h2, ?_, ?_⟩)
        · rw [partsL_snoc, ← List.append_assoc, List.take_left]
        · rw [partsL_snoc, ← List.append_assoc, getD_at _ _ _ (by simp)]
          rw [List.getElem_append_right (Nat.le_refl _)]
          simp
      · rw [nameL_long h2]
        exact .inr (.inl ⟨hx, rfl, by omega⟩)
    · rw [nameL_long h1]
      have h2 : ¬ (w ++ partsL (ns ++ [more])).length ≤ 32 := by rw [partsL_snoc]; simp at h1 ⊢; omega
      rw [nameL_long h2]
      exact .inl ⟨rfl, rfl⟩
  · have hw' : lettersL w = false := by simpa using hw
    rw [nameL_word hw', nameL_word hw']
    exact .inl ⟨rfl, rfl⟩
theorem own_empty (w : World) : (w.alloc (.cells #[] 2)).ownsRow w.heap.size 2 1 (.slice (some ⟨w.heap.size, 0, none⟩) 0 0) 0 [] :=
  ⟨rfl, .inr ⟨w.heap.size, 0, #[], rfl, Nat.le_refl _, heap_alloc_new _ _, Nat.le_refl _, Nat.zero_le _, rfl, rfl⟩⟩
theorem own_below {B : Nat} {w W W' : World} {base : Nat} {e : TypeId} {size : Nat} {v : Value} {n : Nat} {xs : List Value} (h : W.ownsRow base e size v n xs) (hB : B ≤ base) (hW : B ≤ W.heap.size) (hb : Below B w W) (hg : W.grownBy W' v.ownBlock) : Below B w W' :=
  hb.grown hg hW (fun k hk => Nat.le_trans hB (h.lt k hk).1)
theorem ints_one (ns : List Int) : ∀ u ∈ ns.map (Value.int .i64), u.oneCell' = true := by
  intro u hu
  obtain ⟨x, _, rfl⟩ := List.mem_map.1 hu
  rfl
theorem ints_src {w : World} {ad : Addr} {c : Nat} {ns : List Int} (h : IntsAt w (.slice (some ad) ns.length c) ns) : ∀ (j : Nat) (u : Value), (ns.map (Value.int .i64))[j]? = some u → w.cell? (ad.add j) = some u := by
  intro j u hu
  obtain ⟨a', c', h1, h2⟩ := h
  injection h1 with h1 _ _
  subst h1
  rw [List.getElem?_map] at hu
  have hj : j < ns.length := by
    rcases Nat.lt_or_ge j ns.length with h | h
    · exact h
    · rw [List.getElem?_eq_none h] at hu; cases hu
  obtain ⟨b, o, h3, h4⟩ := h2 j hj
  injection h3 with h3
  subst h3
  rw [List.getElem?_eq_getElem hj] at hu
  injection hu with hu
  subst hu
  rw [getD_at _ _ _ hj] at h4
  have e1 : Addr.add ⟨b, o, none⟩ j = ⟨b, o + j, none⟩ := by unfold Addr.add; split <;> simp_all
  rw [e1]; exact h4
set_option maxHeartbeats 2000000 in
set_option maxRecDepth 1000000 in
theorem long_main (word : ByteArray) (more : Int) (a : Option Addr) (c : Nat) (ns : List Int) (w : World) (hE : EnvA w) (hI : IntsAt w (.slice a ns.length c) ns) (hc : a = none → c = 0) (hn : ∀ x ∈ ns, inInt x) (hm : inInt more) (h0 : word.size ≤ 30) (h1 : ns.length ≤ 5) :
    Calls Tryd.prog 7 #[.string word, .slice a ns.length c, .int .i64 more] w fun e w' => e = .returned (.bool true) ∧ Below w.heap.size w w' := by
  have HE := Lib.hid hE
  have HN := Lib.hid hn
  have HNM : Hid (∀ x ∈ ns ++ [more], inInt x) := fun x hx => by
    rcases List.mem_append.1 hx with h | h
    · exact hn x h
    · simp at h; subst h; exact hm
  have HR := Lib.hid (long_names word ns more hm)
  have d0 : decide ((30 : Int) < (word.size : Int)) = false := decide_eq_false (by omega)
  have d1 : decide ((5 : Int) < (ns.length : Int)) = false := decide_eq_false (by omega)
  have hcase : (∃ ad, a = some ad) ∨ (a = none ∧ c = 0 ∧ ns = []) := by
    cases ha : a with
    | some ad => exact .inl ⟨ad, rfl⟩
    | none =>
      refine .inr ⟨rfl, hc ha, ?_⟩
      subst ha
      cases ns with
      | nil => rfl
      | cons x r =>
        obtain ⟨a', c', h1, h2⟩ := hI
        injection h1 with h1 _ _
        obtain ⟨b, o, h3, _⟩ := h2 0 (by simp)
        rw [← h1] at h3; cases h3
  have HI := Lib.hid hI
  clear hE hI hn hc
  obtain ⟨i0, hi, hz0, hz1, hz2⟩ := info_parts infoI
  have key : ∀ (v : Value) (W : World), v = .slice a ns.length c → True := fun _ _ _ => trivial
  clear key
  rcases hcase with ⟨ad, rfl⟩ | ⟨rfl, rfl, rfl⟩
  all_goals
    go_enter Tryd.func7, Tryd.ntmps7
    go_wp2_with fail
    refine (name_any word _ _ _ HE.out.pow HI.out HN.out (by first | omega | simp) (by omega)).mono ?_
    rintro e w1 ⟨rfl, hb⟩
    have B1 := Lib.hid hb
    have I1 := Lib.hid (HI.out.below hb)
    clear hb HI
    have O0 := Lib.hid (own_empty w1)
    have B2 := Lib.hid (onward (below_alloc w1 (.cells #[] 2)) B1.out)
    have I2 := Lib.hid (I1.out.below (below_alloc w1 (.cells #[] 2)))
    have hb0 := B1.out.size
    clear B1 I1
  · go_wp2_with (at_builtin; refine wpList_append_own _ rfl (.tmp 21) (.tmp 22) 22 rfl w1.heap.size 2 i0 _ 1 8 Tryd.underlying22 hi hz0 hz1 hz2 rfl (by decide) _ _ _ rfl O0.out ad ns.length c (ns.map (Value.int .i64)) rfl (by simp) (ints_src I2.out) (ints_one ns) (by unfold maxLen; omega) (by omega) (by simp) ?_)
    intro v2 w2 hown2 hgrow2 _
    try simp only [Nat.zero_add, List.nil_append] at hown2
    have B3 := Lib.hid (own_below O0.out hb0 (by simp; omega) B2.out hgrow2)
    have hsz2 : w1.heap.size ≤ w2.heap.size := by have := hgrow2.size; simp at this; omega
    have O2 := Lib.hid hown2
    have lenx : Hid ((nameB word ns).size ≤ 32) := nameB_len word ns
    clear hown2 hgrow2 O0 B2 I2
    have O2a := Lib.hid (O2.out.alloc (.cells #[.int .i64 more] 2))
    go_wp2_with (at_builtin; refine wpList_append_own _ rfl (.tmp 23) (.tmp 25) 22 rfl w1.heap.size 2 i0 _ 1 8 Tryd.underlying22 hi hz0 hz1 hz2 rfl (by decide) _ _ _ rfl O2a.out ⟨w2.heap.size, 0, none⟩ 1 1 [.int .i64 more] rfl rfl (new_cells _ _ _) (one1 _ _) (by unfold maxLen; omega) (by omega) (by simp; omega) ?_)
    intro v3 w3 hown3 hgrow3 _
    have B4 := Lib.hid (own_below O2a.out hb0 (by simp; omega) (B3.out.alloc (by omega) _) hgrow3)
    have O4 : Hid (w3.ownsRow w1.heap.size 2 1 v3 (ns ++ [more]).length ((ns ++ [more]).map (Value.int .i64))) := by
      unfold Hid
      rw [List.map_append, List.length_append]
      exact hown3
    clear hown3 hgrow3 O2a O2 B3
    go_wp2_with fail
    refine (name_any word _ (ns ++ [more]) _ (HE.out.below B4.out).pow (IntsAt.of_own O4.out) HNM.out (by simp; try omega) (by omega)).mono ?_
    rintro e w4 ⟨rfl, hb⟩
    have B5 := Lib.hid (onward hb B4.out)
    clear hb B4 O4 HN HNM
    generalize nameB word ns = x at *
    generalize nameB word (ns ++ [more]) = y at *
    rcases HR.out with ⟨r1, r2⟩ | ⟨r1, r2, r3⟩ | ⟨r1, r2, r3, r4, r5, r6⟩
    · have e1 : x.toList.isEmpty = true := by rw [baIsEmpty, r1]; rfl
      have e2 : y.toList.isEmpty = true := by rw [baIsEmpty, r2]; rfl
      clear r1 r2
      go_wp2_with fail
      refine (agoes_tail w _ HE.out B5.out).mono ?_
      rintro e w9 ⟨rfl, hb⟩
      have B9 := Lib.hid hb
      clear hb
      go_wp2
      go_ret
      exact ⟨rfl, B9.out⟩
    · have e1 : x.toList.isEmpty = false := by rw [baIsEmpty]; simpa using r1
      have e2 : y.toList.isEmpty = true := by rw [baIsEmpty, r2]; rfl
      have e3 : decide ((10 : Int) < (x.size : Int)) = true := decide_eq_true (by omega)
      clear r1 r2
      go_wp2_with fail
      refine (agoes_tail w _ HE.out B5.out).mono ?_
      rintro e w9 ⟨rfl, hb⟩
      have B9 := Lib.hid hb
      clear hb
      go_wp2
      go_ret
      exact ⟨rfl, B9.out⟩
    · have e1 : x.toList.isEmpty = false := by rw [baIsEmpty]; simpa using r1
      have e2 : y.toList.isEmpty = false := by rw [baIsEmpty]; simpa using r2
      have e3 : ((y.extract 0 x.size).toList == x.toList) = true := by rw [beq_iff_eq, ByteArray.toList_eq, ByteArray.toList_eq, ext_take, r5]
      have e4 : y[x.size] = 47 := by
        have h1 : y.data.toList.getD x.size 0 = y[x.size] := by rw [getD_at _ _ _ (by rw [size_list]; exact r3)]; rfl
        rw [← h1, r6]
      have e5 : (((y[x.size]).toNat : Int) == 47) = true := by rw [e4]; rfl
      have e6 : decide ((x.size : Int) < (y.size : Int)) = true := decide_eq_true (by omega)
      have e7 : decide ((y.size : Int) ≤ 32) = true := decide_eq_true (by omega)
      clear r1 r2 r5 r6 e4
      go_wp2_with fail
      refine (agoes_tail w _ HE.out B5.out).mono ?_
      rintro e w9 ⟨rfl, hb⟩
      have B9 := Lib.hid hb
      clear hb
      go_wp2
      go_ret
      exact ⟨rfl, B9.out⟩
  · have O2a : Hid (((w1.alloc (.cells #[] 2)).alloc (.cells #[.int .i64 more] 2)).ownsRow w1.heap.size 2 1 (.slice (some ⟨w1.heap.size, 0, none⟩) 0 0) 0 []) := O0.out.alloc _
    have NC : Hid (∀ (j : Nat) (u : Value), [Value.int .i64 more][j]? = some u → ((w1.alloc (.cells #[] 2)).alloc (.cells #[.int .i64 more] 2)).cell? (Addr.add ⟨w1.heap.size + 1, 0, none⟩ j) = some u) := by
      have := new_cells (w1.alloc (.cells #[] 2)) [.int .i64 more] 2
      rw [show (w1.alloc (.cells #[] 2)).heap.size = w1.heap.size + 1 from by simp] at this
      exact this
    have B3a : Hid (Below w.heap.size w ((w1.alloc (.cells #[] 2)).alloc (.cells #[.int .i64 more] 2))) := B2.out.alloc (by simp; omega) _
    have lenx : Hid ((nameB word []).size ≤ 32) := nameB_len word []
    go_wp2_with (first | (at_builtin; refine wpList_append_own_none rfl (.tmp 21) (.tmp 22) 22 rfl w1.heap.size 2 i0 1 Tryd.underlying22 hi _ _ _ rfl O0.out rfl ?_) | (at_builtin; refine wpList_append_own _ rfl (.tmp 23) (.tmp 25) 22 rfl w1.heap.size 2 i0 _ 1 8 Tryd.underlying22 hi hz0 hz1 hz2 rfl (by decide) _ _ _ rfl O2a.out ⟨w1.heap.size + 1, 0, none⟩ 1 1 [.int .i64 more] rfl rfl NC.out (one1 _ _) (by unfold maxLen; omega) (by omega) (by simp; omega) ?_))
    intro v3 w3 hown3 hgrow3 _
    have B4 := Lib.hid (own_below O2a.out hb0 (by simp; omega) B3a.out hgrow3)
    have O4 : Hid (w3.ownsRow w1.heap.size 2 1 v3 (([] : List Int) ++ [more]).length ((([] : List Int) ++ [more]).map (Value.int .i64))) := hown3
    clear hown3 hgrow3 O2a O0 B2 I2 B3a NC
    go_wp2_with fail
    refine (name_any word _ (([] : List Int) ++ [more]) _ (HE.out.below B4.out).pow (IntsAt.of_own O4.out) HNM.out (by simp; try omega) (by omega)).mono ?_
    rintro e w4 ⟨rfl, hb⟩
    have B5 := Lib.hid (onward hb B4.out)
    clear hb B4 O4 HN HNM
    generalize nameB word ([] : List Int) = x at *
    generalize nameB word (([] : List Int) ++ [more]) = y at *
    rcases HR.out with ⟨r1, r2⟩ | ⟨r1, r2, r3⟩ | ⟨r1, r2, r3, r4, r5, r6⟩
    · have e1 : x.toList.isEmpty = true := by rw [baIsEmpty, r1]; rfl
      have e2 : y.toList.isEmpty = true := by rw [baIsEmpty, r2]; rfl
      clear r1 r2
      go_wp2_with fail
      refine (agoes_tail w _ HE.out B5.out).mono ?_
      rintro e w9 ⟨rfl, hb⟩
      have B9 := Lib.hid hb
      clear hb
      go_wp2
      go_ret
      exact ⟨rfl, B9.out⟩
    · have e1 : x.toList.isEmpty = false := by rw [baIsEmpty]; simpa using r1
      have e2 : y.toList.isEmpty = true := by rw [baIsEmpty, r2]; rfl
      have e3 : decide ((10 : Int) < (x.size : Int)) = true := decide_eq_true (by omega)
      clear r1 r2
      go_wp2_with fail
      refine (agoes_tail w _ HE.out B5.out).mono ?_
      rintro e w9 ⟨rfl, hb⟩
      have B9 := Lib.hid hb
      clear hb
      go_wp2
      go_ret
      exact ⟨rfl, B9.out⟩
    · have e1 : x.toList.isEmpty = false := by rw [baIsEmpty]; simpa using r1
      have e2 : y.toList.isEmpty = false := by rw [baIsEmpty]; simpa using r2
      have e3 : ((y.extract 0 x.size).toList == x.toList) = true := by rw [beq_iff_eq, ByteArray.toList_eq, ByteArray.toList_eq, ext_take, r5]
      have e4 : y[x.size] = 47 := by
        have h1 : y.data.toList.getD x.size 0 = y[x.size] := by rw [getD_at _ _ _ (by rw [size_list]; exact r3)]; rfl
        rw [← h1, r6]
      have e5 : (((y[x.size]).toNat : Int) == 47) = true := by rw [e4]; rfl
      have e6 : decide ((x.size : Int) < (y.size : Int)) = true := decide_eq_true (by omega)
      have e7 : decide ((y.size : Int) ≤ 32) = true := decide_eq_true (by omega)
      clear r1 r2 r5 r6 e4
      go_wp2_with fail
      refine (agoes_tail w _ HE.out B5.out).mono ?_
      rintro e w9 ⟨rfl, hb⟩
      have B9 := Lib.hid hb
      clear hb
      go_wp2
      go_ret
      exact ⟨rfl, B9.out⟩
theorem long_any (word : ByteArray) (more : Int) (v : Value) (ns : List Int) (w : World) (hE : EnvA w) (hI : IntsAt w v ns) (hc : ∀ l c, v = .slice none l c → c = 0) (hn : ∀ x ∈ ns, inInt x) (hm : inInt more) :
    Calls Tryd.prog 7 #[.string word, v, .int .i64 more] w fun e w' => e = .returned (.bool true) ∧ Below w.heap.size w w' := by
  obtain ⟨a, c, rfl⟩ := ints_form hI
  by_cases h0 : 30 < word.size
  · go_enter Tryd.func7, Tryd.ntmps7
    go_wp2_with fail
    go_ret
    exact ⟨rfl, Below.refl _ _⟩
  by_cases h1 : 5 < ns.length
  · have d0 : decide ((30 : Int) < (word.size : Int)) = false := decide_eq_false (by omega)
    go_enter Tryd.func7, Tryd.ntmps7
    go_wp2_with fail
    go_ret
    exact ⟨rfl, Below.refl _ _⟩
  exact long_main word more a c ns w hE hI (fun e => hc _ _ (by rw [e])) hn hm (by omega) (by omega)
end Go.Proofs.YtblmejdgdcihbaaDoor
