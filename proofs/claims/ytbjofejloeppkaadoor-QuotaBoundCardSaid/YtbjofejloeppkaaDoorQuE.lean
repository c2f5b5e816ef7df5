/- The walks of the law's 'same' and 'goes'. -/
import Derived.Test.YtbjofejloeppkaaDoorQuD
namespace Go.Proofs.YtbjofejloeppkaaDoor
open Go.RowKit Go.Shelf Acct
set_option linter.unusedVariables false
set_option linter.unusedSimpArgs false
/-- parts lie in memory -/
def PartsAt (w : World) (v : Value) (l : List (ByteArray × Int)) : Prop := ∃ a c, v = .slice a l.length c ∧ ∀ i, i < l.length → ∃ b o, a = some ⟨b, o, none⟩ ∧ w.cell? ⟨b, o + i * 2, none⟩ = some (.string (l.getD i (⟨#[]⟩, 0)).1) ∧ w.cell? ⟨b, o + i * 2 + 1, none⟩ = some (.int .i64 (l.getD i (⟨#[]⟩, 0)).2)
theorem PartsAt.below {w w' : World} {v : Value} {ns : List (ByteArray × Int)} (h : PartsAt w v ns) (hb : Below w.heap.size w w') : PartsAt w' v ns := by
  obtain ⟨a, c, rfl, hc⟩ := h
  exact ⟨a, c, rfl, fun i hi => by
    obtain ⟨b, o, rfl, h1, h2⟩ := hc i hi
    exact ⟨b, o, rfl, stays hb h1, stays hb h2⟩⟩
theorem partsC_at : ∀ (l : List (ByteArray × Int)) (i : Nat) (d : ByteArray × Int), i < l.length → (partsC l)[i * 2]? = some (.string (l.getD i d).1) ∧ (partsC l)[i * 2 + 1]? = some (.int .i64 (l.getD i d).2)
  | [], i, d, h => by simp at h
  | p :: l, 0, d, h => by simp [partsC, partC]
  | p :: l, i + 1, d, h => by
    have := partsC_at l i d (by simpa using h)
    have e : partsC (p :: l) = .string p.1 :: .int .i64 p.2 :: partsC l := rfl
    rw [e, show (i + 1) * 2 = i * 2 + 1 + 1 from by omega]
    simpa using this
theorem PartsAt.of_own {w : World} {base : Nat} {v : Value} {l : List (ByteArray × Int)} (h : w.ownsRow base 42 2 v l.length (partsC l)) : PartsAt w v l := by
  have h0 := h
  obtain ⟨hl, ⟨rfl, h1⟩ | ⟨g, cap, cur, rfl, h2, h3⟩⟩ := h
  · exact ⟨none, 0, by rw [h1], fun i hi => by omega⟩
  · refine ⟨_, cap, rfl, fun i hi => ⟨g, 0, rfl, ?_, ?_⟩⟩
    · rw [Nat.zero_add, h0.cellAt _ (by omega)]; exact (partsC_at l i _ hi).1
    · rw [Nat.zero_add, h0.cellAt _ (by omega)]; exact (partsC_at l i _ hi).2
set_option maxHeartbeats 4000000 in
theorem same_any (a b : Value) (l m : List (ByteArray × Int)) (w : World) (ha : PartsAt w a l) (hb : PartsAt w b m) (hll : l.length ≤ 1000000) (hml : m.length ≤ 1000000) :
    Calls Tryd.prog 13 #[a, b] w fun e w' => e = .returned (.bool (decide (l = m))) ∧ Below w.heap.size w w' := by
  obtain ⟨a, c, rfl, ha⟩ := ha
  obtain ⟨b, c', rfl, hb⟩ := hb
  have HA := Lib.hid ha
  have HB := Lib.hid hb
  clear ha hb
  by_cases hne : l.length = m.length
  · go_enter Tryd.func13, Tryd.ntmps13
    go_wp2_with fail
    go_loopw [5] (fun i wr => ∃ k : Nat, k ≤ l.length ∧ i = .int .i64 k ∧ l.take k = m.take k ∧ Below w.heap.size w wr) (fun i _ => l.length - (intOf i).toNat)
    case atStart => exact ⟨0, by omega, rfl, rfl, Below.refl _ _⟩
    case round =>
      obtain ⟨k, hk, rfl, heq, hbr⟩ := hrel
      have BR := Lib.hid hbr
      have HQ := Lib.hid heq
      clear hbr heq
      by_cases hlt : k < l.length
      · obtain ⟨b1, o1, rfl, x1, x2⟩ := HA.out k hlt
        obtain ⟨b2, o2, rfl, y1, y2⟩ := HB.out k (by omega)
        replace x1 := stays BR.out x1
        replace x2 := stays BR.out x2
        replace y1 := stays BR.out y1
        replace y2 := stays BR.out y2
        have hlt2 : k < m.length := by omega
        have hi1 : (0 : Int) ≤ (k : Int) := by omega
        have hi2 : (k : Int) < (l.length : Int) := by omega
        have hi3 : (k : Int) < (m.length : Int) := by omega
        rw [getD_at _ _ _ hlt] at x1 x2
        rw [getD_at _ _ _ hlt2] at y1 y2
        have HT : Hid (l[k] = m[k] → l.take (k + 1) = m.take (k + 1)) := fun h => by
          rw [List.take_succ_eq_append_getElem hlt, List.take_succ_eq_append_getElem hlt2, HQ.out, h]
        have HN : Hid (l[k] ≠ m[k] → l ≠ m) := fun h e => h (by subst e; rfl)
        obtain ⟨x, hx⟩ : ∃ x, l[k] = x := ⟨_, rfl⟩
        obtain ⟨y, hy⟩ : ∃ y, m[k] = y := ⟨_, rfl⟩
        rw [hx] at x1 x2 HT HN
        rw [hy] at y1 y2 HT HN
        clear hx hy HA HB
        obtain ⟨s1, n1⟩ := x
        obtain ⟨s2, n2⟩ := y
        simp only at x1 x2 y1 y2
        by_cases hs : s1 = s2
        · subst hs
          by_cases hn : n1 = n2
          · subst hn
            have HT' : Hid (l.take (k + 1) = m.take (k + 1)) := HT.out rfl
            clear HT HN
            go_wp2_with fail
            go_quiet (fail)
            go_wp2
            go_roundw
            case rel => exact ⟨k + 1, by omega, by go_num, HT'.out, World.below_drewN BR.out _⟩
            case measure => simp [intOf]; omega
          · go_wp2_with fail
            go_quiet (fail)
            go_wp2
            go_ret
            exact ⟨ret_bool (decide_eq_false (HN.out (by simp [hn]))).symm, World.below_drewN BR.out _⟩
        · have hs1 : (s1.toList == s2.toList) = false := by
            rw [ByteArray.toList_eq, ByteArray.toList_eq]
            simp only [beq_eq_false_iff_ne, ne_eq]
            exact fun h => hs (Go.WideShapes.bytes_inj h)
          go_wp2_with fail
          go_quiet (fail)
          go_wp2
          go_ret
          exact ⟨ret_bool (decide_eq_false (HN.out (by simp [hs]))).symm, World.below_drewN BR.out _⟩
      · obtain rfl : k = l.length := by omega
        have HE : Hid (l = m) := by
          have := HQ.out
          rw [List.take_length, hne, List.take_length] at this
          exact this
        go_wp2
        go_ret
        exact ⟨ret_bool (decide_eq_true HE.out).symm, BR.out⟩
  · go_enter Tryd.func13, Tryd.ntmps13
    go_wp2_with fail
    go_ret
    exact ⟨ret_bool (decide_eq_false (fun h => hne (by rw [h]))).symm, Below.refl _ _⟩
end Go.Proofs.YtbjofejloeppkaaDoor
