/- The walks of acct.Units and of the law's numbers. -/
import Derived.Test.YtblmejdgdcihbaaDoorAcB
namespace Go.Proofs.YtblmejdgdcihbaaDoor
open Go.RowKit Go.Shelf Acct
set_option linter.unusedVariables false
set_option linter.unusedSimpArgs false
/-- the words of accounts of units -/
def unitWs : List (List UInt8) := [[117, 115, 101], [102, 114, 101, 101], [111, 118, 101, 114], [112, 97, 99, 107], [115, 111, 108, 100], [100, 97, 121], [100, 97, 121, 115]]
noncomputable def unitsB (l : List UInt8) : Bool := @decide (∃ wd ns, Named l wd ns ∧ wd ∈ unitWs) (Classical.propDecidable _)
theorem unitsB_t {l : List UInt8} : unitsB l = true ↔ ∃ wd ns, Named l wd ns ∧ wd ∈ unitWs := by
  unfold unitsB
  exact @decide_eq_true_iff _ (Classical.propDecidable _)
theorem units_of {l wd : List UInt8} {ns : List Int} (h : Named l wd ns) : unitsB l = decide (wd ∈ unitWs) := by
  rw [Bool.eq_iff_iff, unitsB_t, decide_eq_true_iff]
  constructor
  · rintro ⟨w', ns', h1, h2⟩
    rw [(h.only h1).1]; exact h2
  · exact fun h2 => ⟨wd, ns, h, h2⟩
theorem units_no {l : List UInt8} (h : ∀ wd ns, ¬ Named l wd ns) : unitsB l = false := by
  rw [← Bool.not_eq_true, unitsB_t]
  rintro ⟨w', ns', h1, h2⟩
  exact h _ _ h1
def unitZ : List ByteArray := [⟨#[117, 115, 101]⟩, ⟨#[102, 114, 101, 101]⟩, ⟨#[111, 118, 101, 114]⟩, ⟨#[112, 97, 99, 107]⟩, ⟨#[115, 111, 108, 100]⟩, ⟨#[100, 97, 121]⟩, ⟨#[100, 97, 121, 115]⟩]
theorem unitZ_is (wd : List UInt8) : Lib.containsS unitZ ⟨wd.toArray⟩ = decide (wd ∈ unitWs) := by
  rw [Bool.eq_iff_iff, decide_eq_true_iff, Lib.containsS_iff]
  have e : unitZ = unitWs.map fun l => (⟨l.toArray⟩ : ByteArray) := rfl
  rw [e, List.mem_map]
  constructor
  · rintro ⟨l, h1, h2⟩
    injection h2 with h2
    have : l = wd := by simpa using h2
    rw [← this]; exact h1
  · exact fun h => ⟨wd, h, rfl⟩
set_option maxHeartbeats 1000000 in
set_option maxRecDepth 1000000 in
theorem units_any (name : ByteArray) (w : World) (hE : EnvA w) (hs : name.size ≤ 100000) : Calls Tryd.prog 20 #[.string name] w fun e w' => e = .returned (.bool (unitsB name.data.toList)) ∧ Below w.heap.size w w' := by
  have HE := Lib.hid hE
  clear hE
  go_enter Tryd.func20, Tryd.ntmps20
  go_wp2_with fail
  refine (aparse_any name w HE.out hs).mono ?_
  rintro e w1 ⟨hb, ⟨wd, ns, nv, hN, hI, rfl⟩ | ⟨hN, rfl⟩⟩
  · have HU := Lib.hid (units_of hN)
    have B1 := Lib.hid hb
    clear hb hN hI
    go_wp2_with fail
    have hc : ∀ j, j < unitZ.length → (w1.alloc (.cells #[.string ⟨#[117, 115, 101]⟩, .string ⟨#[102, 114, 101, 101]⟩, .string ⟨#[111, 118, 101, 114]⟩, .string ⟨#[112, 97, 99, 107]⟩, .string ⟨#[115, 111, 108, 100]⟩, .string ⟨#[100, 97, 121]⟩, .string ⟨#[100, 97, 121, 115]⟩] 9)).cell? ⟨w1.heap.size, 0 + j, none⟩ = some (.string (unitZ.getD j ByteArray.empty)) := by
      intro j hj
      rw [Nat.zero_add, World.cell?_alloc_new]
      have h7 : j < 7 := hj
      have : j = 0 ∨ j = 1 ∨ j = 2 ∨ j = 3 ∨ j = 4 ∨ j = 5 ∨ j = 6 := by omega
      rcases this with rfl | rfl | rfl | rfl | rfl | rfl | rfl <;> rfl
    refine (Tryd.slices_Contains_string w1.heap.size 0 7 7 unitZ ⟨wd.toArray⟩ _ (by decide) (by decide) hc).mono ?_
    rintro e w2 ⟨rfl, rfl⟩
    rw [show unitZ.take 7 = unitZ from rfl, unitZ_is, ← HU.out]
    have B2 := Lib.hid (onward (below_alloc w1 (.cells #[.string ⟨#[117, 115, 101]⟩, .string ⟨#[102, 114, 101, 101]⟩, .string ⟨#[111, 118, 101, 114]⟩, .string ⟨#[112, 97, 99, 107]⟩, .string ⟨#[115, 111, 108, 100]⟩, .string ⟨#[100, 97, 121]⟩, .string ⟨#[100, 97, 121, 115]⟩] 9)) B1.out)
    clear hc HU
    go_wp2
    go_ret
    exact ⟨rfl, B2.out⟩
  · have HU := Lib.hid (units_no hN)
    have B1 := Lib.hid hb
    clear hb hN
    go_wp2_with fail
    go_ret
    exact ⟨ret_bool HU.out.symm, B1.out⟩
set_option maxHeartbeats 1000000 in
theorem nums_any (a b : Value) (l m : List Int) (w : World) (ha : IntsAt w a l) (hb : IntsAt w b m) (hll : l.length ≤ 1000000) (hml : m.length ≤ 1000000) :
    Calls Tryd.prog 19 #[a, b] w fun e w' => e = .returned (.bool (decide (l = m))) ∧ Below w.heap.size w w' := by
  obtain ⟨a, c, rfl, ha⟩ := ha
  obtain ⟨b, c', rfl, hb⟩ := hb
  have HA := Lib.hid ha
  have HB := Lib.hid hb
  clear ha hb
  by_cases hne : l.length = m.length
  · go_enter Tryd.func19, Tryd.ntmps19
    go_wp2_with fail
    go_loopw [5] (fun i wr => ∃ k : Nat, k ≤ l.length ∧ i = .int .i64 k ∧ l.take k = m.take k ∧ Below w.heap.size w wr) (fun i _ => l.length - (intOf i).toNat)
    case atStart => exact ⟨0, by omega, rfl, rfl, Below.refl _ _⟩
    case round =>
      obtain ⟨k, hk, rfl, heq, hbr⟩ := hrel
      have BR := Lib.hid hbr
      have HQ := Lib.hid heq
      clear hbr heq
      by_cases hlt : k < l.length
      · obtain ⟨b1, o1, rfl, x1⟩ := HA.out k hlt
        obtain ⟨b2, o2, rfl, y1⟩ := HB.out k (by omega)
        replace x1 := stays BR.out x1
        replace y1 := stays BR.out y1
        have hlt2 : k < m.length := by omega
        have hi1 : (0 : Int) ≤ (k : Int) := by omega
        have hi2 : (k : Int) < (l.length : Int) := by omega
        have hi3 : (k : Int) < (m.length : Int) := by omega
        rw [getD_at _ _ _ hlt] at x1
        rw [getD_at _ _ _ hlt2] at y1
        have HT : Hid (l[k] = m[k] → l.take (k + 1) = m.take (k + 1)) := fun h => by
          rw [List.take_succ_eq_append_getElem hlt, List.take_succ_eq_append_getElem hlt2, HQ.out, h]
        have HN : Hid (l[k] ≠ m[k] → l ≠ m) := fun h e => h (by subst e; rfl)
        obtain ⟨x, hx⟩ : ∃ x, l[k] = x := ⟨_, rfl⟩
        obtain ⟨y, hy⟩ : ∃ y, m[k] = y := ⟨_, rfl⟩
        rw [hx] at x1 HT HN
        rw [hy] at y1 HT HN
        clear hx hy HA HB
        by_cases hn : x = y
        · subst hn
          have HT' : Hid (l.take (k + 1) = m.take (k + 1)) := HT.out rfl
          clear HT HN
          go_wp2_with fail
          go_quiet (fail)
          go_wp2
          go_roundw
          case rel => exact ⟨k + 1, by omega, by go_num, HT'.out, World.below_drewN BR.out _⟩
          case measure => simp [intOf]; omega
        · have hn2 : (x != y) = true := by rw [bne_iff_ne]; exact hn
          go_wp2_with fail
          go_quiet (fail)
          go_wp2
          go_ret
          exact ⟨ret_bool (decide_eq_false (HN.out hn)).symm, World.below_drewN BR.out _⟩
      · obtain rfl : k = l.length := by omega
        have HE : Hid (l = m) := by
          have := HQ.out
          rw [List.take_length, hne, List.take_length] at this
          exact this
        go_wp2
        go_ret
        exact ⟨ret_bool (decide_eq_true HE.out).symm, BR.out⟩
  · go_enter Tryd.func19, Tryd.ntmps19
    go_wp2_with fail
    go_ret
    exact ⟨ret_bool (decide_eq_false (fun h => hne (by rw [h]))).symm, Below.refl _ _⟩
end Go.Proofs.YtblmejdgdcihbaaDoor
