/- Parts in memory; the walks of entry.posts and its closure. The walks of entry.posts; a posting's bytes. -/
import Derived.Test.YtecbnhmnhcpcmaaGreatDoorPkJournalPlays7
import Derived.Test.YtecbnhmnhcpcmaaGreatDoorPkJournalPlays8
/-! Parts in memory; the walks of entry.posts and its closure. -/
namespace Go.Proofs.YtecbnhmnhcpcmaaGreatDoor
open Go.RowKit Go.WideMaps Go.Maps
set_option linter.unusedVariables false
set_option linter.unusedSimpArgs false
set_option maxRecDepth 100000
/-- a part: an account, an amount -/
structure Pt where
  (a : ByteArray) (n : Int)
def Pt.cells (p : Pt) : List Value := [.string p.a, .int .i64 p.n]
def Pt.ok (p : Pt) : Prop := -9223372036854775808 ≤ p.n ∧ p.n ≤ 9223372036854775807
def far : Int := 4611686018427387904
/-- what no part of a posting may be -/
def badP (p : Pt) : Bool := decide (p.a.size = 0 ∨ 32 < p.a.size ∨ p.n = 0 ∨ p.n < -4611686018427387904 ∨ 4611686018427387904 < p.n)
theorem pt_cells {w : World} {a : Option Addr} {n c : Nat} {L : List Pt} (h : RowsIn w (.slice a n c) 2 (L.map Pt.cells)) (i : Nat) (hi : i < L.length) : ∃ b o, a = some ⟨b, o, none⟩ ∧ w.cell? ⟨b, o + i * 2, none⟩ = some (.string L[i].a) ∧ w.cell? ⟨b, o + i * 2 + 1, none⟩ = some (.int .i64 L[i].n) := by
  obtain ⟨b, o, h1, h2⟩ := rows_cell h i (by simpa using hi)
  have e : ((L.map Pt.cells).getD i []) = L[i].cells := by simp [List.getD, hi]
  rw [e] at h2
  exact ⟨b, o, h1, h2 0 (by omega), by rw [Nat.add_assoc]; exact h2 1 (by omega)⟩
theorem pt_form {w : World} {lv : Value} {L : List Pt} (h : RowsIn w lv 2 (L.map Pt.cells)) : ∃ a c, lv = .slice a L.length c := by
  obtain ⟨a, c, e, -, -⟩ := rows_form h
  rw [List.length_map] at e
  exact ⟨a, c, e⟩
theorem pt_len {w : World} {lv : Value} {L : List Pt} (h : RowsIn w lv 2 (L.map Pt.cells)) : L.length ≤ 9223372036854775807 := by
  obtain ⟨a, c, e, h1, h2⟩ := rows_form h
  rw [List.length_map] at h1
  unfold maxLen at h2
  omega
theorem ba_empty {s : ByteArray} (h : s.size = 0) : s.toList.isEmpty = true := by
  rw [ByteArray.toList_eq]
  have : s.data.toList = [] := List.eq_nil_of_length_eq_zero (by rw [Array.length_toList]; exact h)
  rw [this]
  rfl
theorem ba_full {s : ByteArray} (h : 0 < s.size) : s.toList.isEmpty = false := by
  rw [ByteArray.toList_eq]
  cases hs : s.data.toList with
  | nil =>
    have : s.data.toList.length = 0 := by rw [hs]; rfl
    rw [Array.length_toList] at this
    have h2 : s.data.size = s.size := rfl
    omega
  | cons x r => rfl
set_option maxHeartbeats 2000000 in
theorem badp_any (p : Pt) (w : World) : Calls Tryz.prog 80 #[.agg #[.string p.a, .int .i64 p.n]] w fun e w' => e = .returned (.bool (badP p)) ∧ Below w.heap.size w w' := by
  obtain ⟨s, n⟩ := p
  dsimp only
  have hx : s.size = 0 ∨ (0 < s.size ∧ 32 < s.size) ∨ (0 < s.size ∧ s.size ≤ 32 ∧ n = 0) ∨ (0 < s.size ∧ s.size ≤ 32 ∧ n < -4611686018427387904) ∨ (0 < s.size ∧ s.size ≤ 32 ∧ 4611686018427387904 < n) ∨ (0 < s.size ∧ s.size ≤ 32 ∧ n ≠ 0 ∧ -4611686018427387904 ≤ n ∧ n ≤ 4611686018427387904) := by omega
  rcases hx with hx | hx | hx | hx | hx | hx
  · have HV : badP ⟨s, n⟩ = true := decide_eq_true (.inl hx)
    rw [HV]
    have e1 := ba_empty hx
    go_enter Tryz.func80, Tryz.ntmps80
    go_wp2_with fail
    go_ret
    exact ⟨rfl, below_alloc _ _⟩
  all_goals
    have e1 : s.toList.isEmpty = false := ba_full (by omega)
  · have HV : badP ⟨s, n⟩ = true := decide_eq_true (.inr (.inl (by dsimp only; omega)))
    rw [HV]
    have d1 : decide ((32 : Int) < (s.size : Int)) = true := decide_eq_true (by omega)
    go_enter Tryz.func80, Tryz.ntmps80
    go_wp2_with fail
    go_ret
    exact ⟨rfl, below_alloc _ _⟩
  all_goals
    have d1 : decide ((32 : Int) < (s.size : Int)) = false := decide_eq_false (by omega)
  · have HV : badP ⟨s, n⟩ = true := decide_eq_true (.inr (.inr (.inl (by dsimp only; omega))))
    rw [HV]
    have d2 : (n == 0) = true := by rw [beq_iff_eq]; omega
    go_enter Tryz.func80, Tryz.ntmps80
    go_wp2_with fail
    go_ret
    exact ⟨rfl, below_alloc _ _⟩
  · have HV : badP ⟨s, n⟩ = true := decide_eq_true (.inr (.inr (.inr (.inl (by dsimp only; omega)))))
    rw [HV]
    have d2 : (n == 0) = false := by rw [beq_eq_false_iff_ne]; omega
    first
    | have d3 : decide (n < -4611686018427387904) = true := decide_eq_true (by omega)
    | have d3 : decide (n < -4611686018427387904) = false := decide_eq_false (by omega)
    first
    | have d4 : decide (4611686018427387904 < n) = true := decide_eq_true (by omega)
    | have d4 : decide (4611686018427387904 < n) = false := decide_eq_false (by omega)
    go_enter Tryz.func80, Tryz.ntmps80
    go_wp2_with fail
    go_ret
    exact ⟨rfl, below_alloc _ _⟩
  · have HV : badP ⟨s, n⟩ = true := decide_eq_true (.inr (.inr (.inr (.inr (by dsimp only; omega)))))
    rw [HV]
    have d2 : (n == 0) = false := by rw [beq_eq_false_iff_ne]; omega
    first
    | have d3 : decide (n < -4611686018427387904) = true := decide_eq_true (by omega)
    | have d3 : decide (n < -4611686018427387904) = false := decide_eq_false (by omega)
    first
    | have d4 : decide (4611686018427387904 < n) = true := decide_eq_true (by omega)
    | have d4 : decide (4611686018427387904 < n) = false := decide_eq_false (by omega)
    go_enter Tryz.func80, Tryz.ntmps80
    go_wp2_with fail
    go_ret
    exact ⟨rfl, below_alloc _ _⟩
  · have HV : badP ⟨s, n⟩ = false := decide_eq_false (by dsimp only; omega)
    rw [HV]
    have d2 : (n == 0) = false := by rw [beq_eq_false_iff_ne]; omega
    first
    | have d3 : decide (n < -4611686018427387904) = true := decide_eq_true (by omega)
    | have d3 : decide (n < -4611686018427387904) = false := decide_eq_false (by omega)
    first
    | have d4 : decide (4611686018427387904 < n) = true := decide_eq_true (by omega)
    | have d4 : decide (4611686018427387904 < n) = false := decide_eq_false (by omega)
    go_enter Tryz.func80, Tryz.ntmps80
    go_wp2_with fail
    go_ret
    exact ⟨rfl, below_alloc _ _⟩
set_option maxHeartbeats 2000000 in
theorem contains_any (lv : Value) (L : List Pt) (w : World) (hl : RowsIn w lv 2 (L.map Pt.cells)) : Calls Tryz.prog 79 #[lv, .func (.func 80) #[] #[]] w fun e w' => e = .returned (.bool (L.any badP)) ∧ Below w.heap.size w w' := by
  have key : Calls Tryz.prog 110 #[lv, .func (.func 80) #[] #[]] w fun e w' => ∃ i : Int, e = .returned (.int .i64 i) ∧ (0 ≤ i ↔ L.any badP = true) ∧ Below w.heap.size w w' := by
    have HL := Lib.hid hl
    have hlen := pt_len hl
    obtain ⟨a, c, rfl⟩ := pt_form hl
    clear hl
    go_enter Tryz.func110, Tryz.ntmps110
    go_wp2_with fail
    go_loopw [8] (fun iv wr => ∃ k : Nat, k ≤ L.length ∧ iv = .int .i64 k ∧ Hid ((L.take k).any badP = false) ∧ Hid (Below w.heap.size w wr)) (fun iv _ => L.length - (intOf iv).toNat)
    case atStart => exact ⟨0, by omega, rfl, rfl, Below.refl _ _⟩
    case round =>
      obtain ⟨k, hk, rfl, HA, BR⟩ := hrel
      by_cases hlt : k < L.length
      · obtain ⟨g, o, rfl, y0, y1⟩ := pt_cells (HL.out.below BR.out) k hlt
        have hz : (k : Int) < L.length := by omega
        have HS : Hid ((L.take (k + 1)).any badP = (badP L[k])) := by
          show _ = _
          rw [List.take_succ_eq_append_getElem hlt, List.any_append, HA.out]
          simp
        have HT : Hid (badP L[k] = true → L.any badP = true) := fun h => List.any_eq_true.2 ⟨_, List.getElem_mem hlt, h⟩
        have BX := Lib.hid (badp_any L[k] wr)
        generalize L[k] = p at *
        obtain ⟨s, n⟩ := p
        dsimp only at y0 y1 BX
        go_wp2_with fail
        refine BX.out.mono ?_
        rintro e w2 ⟨rfl, hb⟩
        have B2 := Lib.hid (onward hb BR.out)
        clear hb BX
        cases hq : badP ⟨s, n⟩
        · have HS2 : Hid ((L.take (k + 1)).any badP = false) := by show _ = _; rw [HS.out, hq]
          clear HS HT hq
          go_wp2_with fail
          go_roundw
          case rel => exact ⟨k + 1, by omega, by go_num, HS2.out, B2.out⟩
          case measure => simp [intOf]; omega
        · have HT2 := Lib.hid (HT.out hq)
          clear HS HT hq
          go_wp2_with fail
          go_ret
          exact ⟨k, rfl, ⟨fun _ => HT2.out, fun _ => by omega⟩, B2.out⟩
      · obtain rfl : k = L.length := by omega
        have HA2 := HA.out
        rw [List.take_length] at HA2
        have HA3 := Lib.hid HA2
        clear HA HA2
        go_wp2_with fail
        go_ret
        exact ⟨-1, rfl, ⟨fun h => by omega, fun h => by rw [HA3.out] at h; cases h⟩, BR.out⟩
  have KY := Lib.hid key
  clear key hl
  go_enter Tryz.func79, Tryz.ntmps79
  go_wp2_with fail
  refine KY.out.mono ?_
  rintro e w2 ⟨i, rfl, hi, hb⟩
  have B2 := Lib.hid hb
  have HI := Lib.hid hi
  clear hb hi
  by_cases h0 : 0 ≤ i
  · have d : decide ((0 : Int) ≤ i) = true := decide_eq_true h0
    have HR := Lib.hid (HI.out.1 h0)
    go_wp2_with fail
    go_ret
    exact ⟨by rw [HR.out]; rfl, B2.out⟩
  · have d : decide ((0 : Int) ≤ i) = false := decide_eq_false h0
    have HR : Hid (L.any badP = false) := by
      cases h : L.any badP
      · rfl
      · exact absurd (HI.out.2 h) h0
    go_wp2_with fail
    go_ret
    exact ⟨by rw [HR.out]; rfl, B2.out⟩
end Go.Proofs.YtecbnhmnhcpcmaaGreatDoor
/-! The walks of entry.posts; a posting's bytes.  -/
namespace Go.Proofs.YtecbnhmnhcpcmaaGreatDoor
open Go.RowKit Go.WideMaps Go.Maps
set_option linter.unusedVariables false
set_option linter.unusedSimpArgs false
set_option maxRecDepth 100000
/-- may a posting be? -/
def postsB (seq : Nat) (time : Int) (L : List Pt) : Bool := decide (0 < seq ∧ 0 ≤ time ∧ time ≤ 137438953472 ∧ 0 < L.length ∧ L.length ≤ 16) && !L.any badP
def postV (seq : Nat) (time : Int) (ten : Nat) (lv : Value) : Value := .agg #[.int .u64 seq, .int .i64 time, .int .u32 ten, lv]
theorem posts_no {seq : Nat} {time : Int} {L : List Pt} (h : ¬ (0 < seq ∧ 0 ≤ time ∧ time ≤ 137438953472 ∧ 0 < L.length ∧ L.length ≤ 16)) : postsB seq time L = false := by
  unfold postsB
  rw [decide_eq_false h]
  rfl
set_option maxHeartbeats 4000000 in
theorem posts_any (seq : Nat) (time : Int) (ten : Nat) (lv : Value) (L : List Pt) (w : World) (hl : RowsIn w lv 2 (L.map Pt.cells)) : Calls Tryz.prog 52 #[postV seq time ten lv] w fun e w' => e = .returned (.bool (postsB seq time L)) ∧ Below w.heap.size w w' := by
  have CX := Lib.hid (fun (W : World) (hb : Below w.heap.size w W) => contains_any lv L W (hl.below hb))
  obtain ⟨a, c, rfl⟩ := pt_form hl
  clear hl
  show Calls Tryz.prog 52 #[.agg #[.int .u64 seq, .int .i64 time, .int .u32 ten, .slice a L.length c]] w _
  have hx : seq = 0 ∨ (0 < seq ∧ time < 0) ∨ (0 < seq ∧ 0 ≤ time ∧ 137438953472 < time) ∨ (0 < seq ∧ 0 ≤ time ∧ time ≤ 137438953472 ∧ L.length = 0) ∨ (0 < seq ∧ 0 ≤ time ∧ time ≤ 137438953472 ∧ 0 < L.length ∧ 16 < L.length) ∨ (0 < seq ∧ 0 ≤ time ∧ time ≤ 137438953472 ∧ 0 < L.length ∧ L.length ≤ 16) := by omega
  rcases hx with hx | hx | hx | hx | hx | hx
  iterate 5
    · rw [posts_no (seq := seq) (time := time) (L := L) (by omega)]
      first
      | have d0 : decide ((0 : Int) < (seq : Int)) = true := decide_eq_true (by omega)
      | have d0 : decide ((0 : Int) < (seq : Int)) = false := decide_eq_false (by omega)
      first
      | have d1 : decide ((0 : Int) ≤ time) = true := decide_eq_true (by omega)
      | have d1 : decide ((0 : Int) ≤ time) = false := decide_eq_false (by omega)
      | skip
      first
      | have d2 : decide (time ≤ 137438953472) = true := decide_eq_true (by omega)
      | have d2 : decide (time ≤ 137438953472) = false := decide_eq_false (by omega)
      | skip
      first
      | have d3 : decide ((0 : Int) < (L.length : Int)) = true := decide_eq_true (by omega)
      | have d3 : decide ((0 : Int) < (L.length : Int)) = false := decide_eq_false (by omega)
      | skip
      first
      | have d4 : decide ((L.length : Int) ≤ 16) = true := decide_eq_true (by omega)
      | have d4 : decide ((L.length : Int) ≤ 16) = false := decide_eq_false (by omega)
      | skip
      go_enter Tryz.func52, Tryz.ntmps52
      go_wp2_with fail
      go_ret
      exact ⟨rfl, below_alloc _ _⟩
  have HV : Hid (postsB seq time L = !L.any badP) := by
    show _ = _
    unfold postsB
    rw [decide_eq_true hx]
    rfl
  have d0 : decide ((0 : Int) < (seq : Int)) = true := decide_eq_true (by omega)
  have d1 : decide ((0 : Int) ≤ time) = true := decide_eq_true (by omega)
  have d2 : decide (time ≤ 137438953472) = true := decide_eq_true (by omega)
  have d3 : decide ((0 : Int) < (L.length : Int)) = true := decide_eq_true (by omega)
  have d4 : decide ((L.length : Int) ≤ 16) = true := decide_eq_true (by omega)
  obtain ⟨x1, x2, x3, x4, x5⟩ := hx
  go_enter Tryz.func52, Tryz.ntmps52
  go_wp2_with fail
  refine (CX.out _ (below_alloc _ _)).mono ?_
  rintro e w2 ⟨rfl, hb⟩
  have B2 := Lib.hid (onward hb (below_alloc _ _))
  clear hb
  go_wp2_with fail
  go_ret
  exact ⟨by rw [HV.out]; rfl, B2.out⟩
/-- a posting's bytes -/
def partL (p : Pt) : Bs := (big8 p.a.size).drop 4 ++ p.a.data.toList ++ big8 (toU p.n)
def headL (seq : Nat) (time : Int) (ten n : Nat) : Bs := big8 seq ++ big8 (toU time) ++ big8 ten ++ big8 n
def postL (seq : Nat) (time : Int) (ten : Nat) (L : List Pt) : Bs := headL seq time ten L.length ++ L.flatMap partL
theorem big8_len (x : Nat) : (big8 x).length = 8 := rfl
theorem headL_len (seq : Nat) (time : Int) (ten n : Nat) : (headL seq time ten n).length = 32 := rfl
theorem partL_len (p : Pt) (h : p.a.size ≤ 32) : (partL p).length ≤ 44 := by
  unfold partL
  rw [List.length_append, List.length_append, big8_len, List.length_drop, big8_len]
  have : p.a.data.toList.length = p.a.size := by rw [Array.length_toList]; rfl
  omega
theorem parts_len (L : List Pt) (h : ∀ p ∈ L, p.a.size ≤ 32) : (L.flatMap partL).length ≤ 44 * L.length := by
  induction L with
  | nil => simp
  | cons x r ih =>
    rw [List.flatMap_cons, List.length_append, List.length_cons]
    have h1 := partL_len x (h x (by simp))
    have h2 := ih (fun p hp => h p (List.mem_cons_of_mem _ hp))
    omega
theorem posts_yes {seq : Nat} {time : Int} {L : List Pt} (h : postsB seq time L = true) : 0 < seq ∧ 0 ≤ time ∧ time ≤ 137438953472 ∧ 0 < L.length ∧ L.length ≤ 16 ∧ ∀ p ∈ L, 0 < p.a.size ∧ p.a.size ≤ 32 ∧ p.n ≠ 0 ∧ -4611686018427387904 ≤ p.n ∧ p.n ≤ 4611686018427387904 := by
  unfold postsB at h
  rw [Bool.and_eq_true] at h
  obtain ⟨h1, h2⟩ := h
  have h3 := of_decide_eq_true h1
  refine ⟨h3.1, h3.2.1, h3.2.2.1, h3.2.2.2.1, h3.2.2.2.2, fun p hp => ?_⟩
  have h4 : L.any badP = false := by simpa using h2
  have h5 := List.any_eq_false.1 h4 p hp
  have h6 : ¬ (p.a.size = 0 ∨ 32 < p.a.size ∨ p.n = 0 ∨ p.n < -4611686018427387904 ∨ 4611686018427387904 < p.n) := fun hc => h5 (decide_eq_true hc)
  omega
theorem post_cells {w : World} {b : Nat} {T : Nat} {x0 x1 x2 x3 : Value} (h : w.heap[b]? = some (.cells #[x0, x1, x2, x3] T (0, 0))) : w.cell? ⟨b, 0, none⟩ = some x0 ∧ w.cell? ⟨b, 1, none⟩ = some x1 ∧ w.cell? ⟨b, 2, none⟩ = some x2 ∧ w.cell? ⟨b, 3, none⟩ = some x3 := by
  refine ⟨?_, ?_, ?_, ?_⟩ <;> simp [World.cell?, h]
theorem part_cells2 {w : World} {b : Nat} {T : Nat} {x0 x1 : Value} (h : w.heap[b]? = some (.cells #[x0, x1] T (0, 0))) : w.cell? ⟨b, 0, none⟩ = some x0 ∧ w.cell? ⟨b, 1, none⟩ = some x1 := by
  refine ⟨?_, ?_⟩ <;> simp [World.cell?, h]
def PutpEnd (seq : Nat) (time : Int) (ten : Nat) (L : List Pt) (w : World) (e : Ending) (w' : World) : Prop := Below w.heap.size w w' ∧ if postsB seq time L = true then ∃ v, e = .returned (.tuple #[v, .int .i64 0]) ∧ BytesAt 0 w' v (postL seq time ten L) else e = .returned (.tuple #[.slice none 0 0, .int .i64 1])
theorem PutpEnd.no {seq : Nat} {time : Int} {ten : Nat} {L : List Pt} {w w' : World} {e : Ending} (h : postsB seq time L = false) (hb : Below w.heap.size w w') (he : e = .returned (.tuple #[.slice none 0 0, .int .i64 1])) : PutpEnd seq time ten L w e w' := ⟨hb, by rw [if_neg (by rw [h]; decide)]; exact he⟩
theorem PutpEnd.yes {seq : Nat} {time : Int} {ten : Nat} {L : List Pt} {w w' : World} {e : Ending} {v : Value} (h : postsB seq time L = true) (hb : Below w.heap.size w w') (hv : BytesAt 0 w' v (postL seq time ten L)) (he : e = .returned (.tuple #[v, .int .i64 0])) : PutpEnd seq time ten L w e w' := ⟨hb, by rw [if_pos h]; exact ⟨v, he, hv⟩⟩
end Go.Proofs.YtecbnhmnhcpcmaaGreatDoor
