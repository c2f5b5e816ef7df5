/- The walks of entry.posts; a posting's bytes. -/
import Derived.Test.YtecbnhmnhcpcmaaGreatDoorPkJournalKnown12
/-! The walks of entry.posts; a posting's bytes.  -/
namespace Go.Proofs.YtecbnhmnhcpcmaaGreatDoor
open Go.RowKit Go.WideMaps Go.Maps
set_option linter.unusedVariables false
set_option linter.unusedSimpArgs false
set_option maxRecDepth 100000
/-- may a posting be? -/
def postsB (seq : Nat) (time : Int) (L : List Pt) : Bool := decide (0 < seq ∧ 0 ≤ time ∧ time ≤ 137438953472 ∧ 0 < L.length ∧ L.length ≤ 16) && !L.any badP
def postV (seq : Nat) (time : Int) (ten : Nat) (lv : Value) : Value := .agg #[.int .u64 seq, .int .i64 time, .int .u32 ten, lv]
theorem posts_no {seq : Nat} {time : Int} {L : List Pt} (h : ¬ (0 < seq ∧ 0 ≤ time ∧ time ≤ 137438953472 ∧ 0 < L.length ∧ L.length ≤ 16)) : postsB seq time L = false := by
  unfold postsB
  rw [decide_eq_false h]
  rfl
set_option maxHeartbeats 4000000 in
theorem posts_any (seq : Nat) (time : Int) (ten : Nat) (lv : Value) (L : List Pt) (w : World) (hl : RowsIn w lv 2 (L.map Pt.cells)) : Calls Tryz.prog 52 #[postV seq time ten lv] w fun e w' => e = .returned (.bool (postsB seq time L)) ∧ Below w.heap.size w w' := by
  have CX := Lib.hid (fun (W : World) (hb : Below w.heap.size w W) => contains_any lv L W (hl.below hb))
  obtain ⟨a, c, rfl⟩ := pt_form hl
  clear hl
  show Calls Tryz.prog 52 #[.agg #[.int .u64 seq, .int .i64 time, .int .u32 ten, .slice a L.length c]] w _
  have hx : seq = 0 ∨ (0 < seq ∧ time < 0) ∨ (0 < seq ∧ 0 ≤ time ∧ 137438953472 < time) ∨ (0 < seq ∧ 0 ≤ time ∧ time ≤ 137438953472 ∧ L.length = 0) ∨ (0 < seq ∧ 0 ≤ time ∧ time ≤ 137438953472 ∧ 0 < L.length ∧ 16 < L.length) ∨ (0 < seq ∧ 0 ≤ time ∧ time ≤ 137438953472 ∧ 0 < L.length ∧ L.length ≤ 16) := by omega
  rcases hx with hx | hx | hx | hx | hx | hx
  iterate 5
    · rw [posts_no (seq := seq) (time := time) (L := L) (by omega)]
      first
      | have d0 : decide ((0 : Int) < (seq : Int)) = true := decide_eq_true (by omega)
      | have d0 : decide ((0 : Int) < (seq : Int)) = false := decide_eq_false (by omega)
      first
      | have d1 : decide ((0 : Int) ≤ time) = true := decide_eq_true (by omega)
      | have d1 : decide ((0 : Int) ≤ time) = false := decide_eq_false (by omega)
      | skip
      first
      | have d2 : decide (time ≤ 137438953472) = true := decide_eq_true (by omega)
      | have d2 : decide (time ≤ 137438953472) = false := decide_eq_false (by omega)
      | skip
      first
      | have d3 : decide ((0 : Int) < (L.length : Int)) = true := decide_eq_true (by omega)
      | have d3 : decide ((0 : Int) < (L.length : Int)) = false := decide_eq_false (by omega)
      | skip
      first
      | have d4 : decide ((L.length : Int) ≤ 16) = true := decide_eq_true (by omega)
      | have d4 : decide ((L.length : Int) ≤ 16) = false := decide_eq_false (by omega)
      | skip
      go_enter Tryz.func52, Tryz.ntmps52
      go_wp2_with fail
      go_ret
      exact ⟨rfl, below_alloc _ _⟩
  have HV : Hid (postsB seq time L = !L.any badP) := by
    show _ = _
    unfold postsB
    rw [decide_eq_true hx]
    rfl
  have d0 : decide ((0 : Int) < (seq : Int)) = true := decide_eq_true (by omega)
  have d1 : decide ((0 : Int) ≤ time) = true := decide_eq_true (by omega)
  have d2 : decide (time ≤ 137438953472) = true := decide_eq_true (by omega)
  have d3 : decide ((0 : Int) < (L.length : Int)) = true := decide_eq_true (by omega)
  have d4 : decide ((L.length : Int) ≤ 16) = true := decide_eq_true (by omega)
  obtain ⟨x1, x2, x3, x4, x5⟩ := hx
  go_enter Tryz.func52, Tryz.ntmps52
  go_wp2_with fail
  refine (CX.out _ (below_alloc _ _)).mono ?_
  rintro e w2 ⟨rfl, hb⟩
  have B2 := Lib.hid (onward hb (below_alloc _ _))
  clear hb
  go_wp2_with fail
  go_ret
  exact ⟨by rw [HV.out]; rfl, B2.out⟩
/-- a posting's bytes -/
def partL (p : Pt) : Bs := (big8 p.a.size).drop 4 ++ p.a.data.toList ++ big8 (toU p.n)
def headL (seq : Nat) (time : Int) (ten n : Nat) : Bs := big8 seq ++ big8 (toU time) ++ big8 ten ++ big8 n
def postL (seq : Nat) (time : Int) (ten : Nat) (L : List Pt) : Bs := headL seq time ten L.length ++ L.flatMap partL
theorem big8_len (x : Nat) : (big8 x).length = 8 := rfl
theorem headL_len (seq : Nat) (time : Int) (ten n : Nat) : (headL seq time ten n).length = 32 := rfl
theorem partL_len (p : Pt) (h : p.a.size ≤ 32) : (partL p).length ≤ 44 := by
  unfold partL
  rw [List.length_append, List.length_append, big8_len, List.length_drop, big8_len]
  have : p.a.data.toList.length = p.a.size := by rw [Array.length_toList]; rfl
  omega
theorem parts_len (L : List Pt) (h : ∀ p ∈ L, p.a.size ≤ 32) : (L.flatMap partL).length ≤ 44 * L.length := by
  induction L with
  | nil => simp
  | cons x r ih =>
    rw [List.flatMap_cons, List.length_append, List.length_cons]
    have h1 := partL_len x (h x (by simp))
    have h2 := ih (fun p hp => h p (List.mem_cons_of_mem _ hp))
    omega
theorem posts_yes {seq : Nat} {time : Int} {L : List Pt} (h : postsB seq time L = true) : 0 < seq ∧ 0 ≤ time ∧ time ≤ 137438953472 ∧ 0 < L.length ∧ L.length ≤ 16 ∧ ∀ p ∈ L, 0 < p.a.size ∧ p.a.size ≤ 32 ∧ p.n ≠ 0 ∧ -4611686018427387904 ≤ p.n ∧ p.n ≤ 4611686018427387904 := by
  unfold postsB at h
  rw [Bool.and_eq_true] at h
  obtain ⟨h1, h2⟩ := h
  have h3 := of_decide_eq_true h1
  refine ⟨h3.1, h3.2.1, h3.2.2.1, h3.2.2.2.1, h3.2.2.2.2, fun p hp => ?_⟩
  have h4 : L.any badP = false := by simpa using h2
  have h5 := List.any_eq_false.1 h4 p hp
  have h6 : ¬ (p.a.size = 0 ∨ 32 < p.a.size ∨ p.n = 0 ∨ p.n < -4611686018427387904 ∨ 4611686018427387904 < p.n) := fun hc => h5 (decide_eq_true hc)
  omega
theorem post_cells {w : World} {b : Nat} {T : Nat} {x0 x1 x2 x3 : Value} (h : w.heap[b]? = some (.cells #[x0, x1, x2, x3] T (0, 0))) : w.cell? ⟨b, 0, none⟩ = some x0 ∧ w.cell? ⟨b, 1, none⟩ = some x1 ∧ w.cell? ⟨b, 2, none⟩ = some x2 ∧ w.cell? ⟨b, 3, none⟩ = some x3 := by
  refine ⟨?_, ?_, ?_, ?_⟩ <;> simp [World.cell?, h]
theorem part_cells2 {w : World} {b : Nat} {T : Nat} {x0 x1 : Value} (h : w.heap[b]? = some (.cells #[x0, x1] T (0, 0))) : w.cell? ⟨b, 0, none⟩ = some x0 ∧ w.cell? ⟨b, 1, none⟩ = some x1 := by
  refine ⟨?_, ?_⟩ <;> simp [World.cell?, h]
def PutpEnd (seq : Nat) (time : Int) (ten : Nat) (L : List Pt) (w : World) (e : Ending) (w' : World) : Prop := Below w.heap.size w w' ∧ if postsB seq time L = true then ∃ v, e = .returned (.tuple #[v, .int .i64 0]) ∧ BytesAt 0 w' v (postL seq time ten L) else e = .returned (.tuple #[.slice none 0 0, .int .i64 1])
theorem PutpEnd.no {seq : Nat} {time : Int} {ten : Nat} {L : List Pt} {w w' : World} {e : Ending} (h : postsB seq time L = false) (hb : Below w.heap.size w w') (he : e = .returned (.tuple #[.slice none 0 0, .int .i64 1])) : PutpEnd seq time ten L w e w' := ⟨hb, by rw [if_neg (by rw [h]; decide)]; exact he⟩
theorem PutpEnd.yes {seq : Nat} {time : Int} {ten : Nat} {L : List Pt} {w w' : World} {e : Ending} {v : Value} (h : postsB seq time L = true) (hb : Below w.heap.size w w') (hv : BytesAt 0 w' v (postL seq time ten L)) (he : e = .returned (.tuple #[v, .int .i64 0])) : PutpEnd seq time ten L w e w' := ⟨hb, by rw [if_pos h]; exact ⟨v, he, hv⟩⟩
end Go.Proofs.YtecbnhmnhcpcmaaGreatDoor
