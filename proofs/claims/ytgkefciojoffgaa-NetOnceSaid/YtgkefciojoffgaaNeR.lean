/- The reference's Same: two rows of letters are compared. (Printed by gen_ner.py.) -/
import Derived.Test.YtgkefciojoffgaaNeP
import Derived.Test.YtgkefciojoffgaaReg
namespace Go.Proofs.Ytgkefciojoffgaa
open Go.RowKit
set_option linter.unusedVariables false
set_option linter.unusedSimpArgs false
attribute [local go_sem ↓] Go.wp_at_zero Go.wp_at_succ
/-- letters in a row, wherever it lies -/
def LtsIn (B : Nat) (w : World) (v : Value) (R : List Sy) : Prop := ∃ L : List Lt, RowsIn w v 3 (L.map Lt.cells) ∧ LtsAt B w L ∧ L.map Lt.says = R
theorem LtsIn.below {B : Nat} {w w' : World} {v : Value} {R : List Sy} (h : LtsIn B w v R) (hb : Below w.heap.size w w') : LtsIn B w' v R := by
  obtain ⟨L, h1, h2, h3⟩ := h
  exact ⟨L, h1.below hb, h2.step (.of_below hb), h3⟩
theorem below_drewN' (w : World) (n : Nat) : Below w.heap.size w (w.drewN n) := World.below_drewN (Below.refl _ _) n
theorem rows_cell {w : World} {a : Option Addr} {n c size : Nat} {rows : List (List Value)} (h : RowsIn w (.slice a n c) size rows) (i : Nat) (hi : i < rows.length) : ∃ b o, a = some ⟨b, o, none⟩ ∧ ∀ j, j < size → w.cell? ⟨b, o + (i * size + j), none⟩ = (rows.getD i [])[j]? := by
  obtain ⟨a', c', h1, h2, h3, h4⟩ := h
  injection h1 with h1 _ _
  subst h1
  obtain ⟨b, o, h5, h6, h7⟩ := h4 i hi
  exact ⟨b, o, h5, h7⟩
theorem lt_cells {w : World} {a : Option Addr} {n c : Nat} {L : List Lt} (h : RowsIn w (.slice a n c) 3 (L.map Lt.cells)) (i : Nat) (hi : i < L.length) : ∃ b o, a = some ⟨b, o, none⟩ ∧ w.cell? ⟨b, o + i * 3, none⟩ = some (.int .i64 L[i].f) ∧ w.cell? ⟨b, o + i * 3 + 1, none⟩ = some (.int .i64 L[i].t) ∧ w.cell? ⟨b, o + i * 3 + 2, none⟩ = some L[i].bv := by
  obtain ⟨b, o, h1, h2⟩ := rows_cell h i (by simpa using hi)
  have e : ((L.map Lt.cells).getD i []) = L[i].cells := by simp [List.getD, hi]
  rw [e] at h2
  exact ⟨b, o, h1, h2 0 (by omega), by rw [Nat.add_assoc]; exact h2 1 (by omega), by rw [Nat.add_assoc]; exact h2 2 (by omega)⟩
theorem rows_form {w : World} {v : Value} {size : Nat} {rows : List (List Value)} (h : RowsIn w v size rows) : ∃ a c, v = .slice a rows.length c ∧ rows.length ≤ c ∧ c ≤ maxLen := by
  obtain ⟨a, c, h1, h2, h3, _⟩ := h
  exact ⟨a, c, h1, h2, h3⟩
def sameB (R R' : List Sy) : Bool := decide (R = R')
theorem same_len {R R' : List Sy} (h : R.length ≠ R'.length) : sameB R R' = false := by
  unfold sameB; rw [decide_eq_false_iff_not]; intro e; exact h (by rw [e])
set_option maxHeartbeats 4000000 in
set_option maxRecDepth 10000000 in
theorem same_any (B : Nat) (va vb : Value) (Ra Rb : List Sy) (w : World) (ha : LtsIn B w va Ra) (hb : LtsIn B w vb Rb) :
    Calls Try.prog 16 #[va, vb] w fun e w' => e = .returned (.bool (sameB Ra Rb)) ∧ ∃ n, w' = w.drewN n := by
  obtain ⟨La, a1, a2, rfl⟩ := ha
  obtain ⟨Lb, b1, b2, rfl⟩ := hb
  obtain ⟨aa, ca, rfl, a3, a4⟩ := rows_form a1
  obtain ⟨ab, cb, rfl, b3, b4⟩ := rows_form b1
  simp only [List.length_map] at a1 a3 b1 b3 ⊢
  have hla : La.length ≤ 9223372036854775807 := by unfold maxLen at a4; omega
  have hlb : Lb.length ≤ 9223372036854775807 := by unfold maxLen at b4; omega
  have A1 := Lib.hid a1
  have A2 := Lib.hid a2
  have B1 := Lib.hid b1
  have B2 := Lib.hid b2
  unfold maxLen at a4 b4
  clear a1 a2 b1 b2
  by_cases hlen : La.length = Lb.length
  · have hne : ((La.length : Int) != Lb.length) = false := by rw [hlen]; simp
    have HLEN := Lib.hid hlen
    have hl1 : La.length ≤ Lb.length := by omega
    clear hlen
    go_enter Try.func16, Try.ntmps16
    go_wp2_with fail
    go_loopw [5] (fun i wr => ∃ (k n : Nat), k ≤ La.length ∧ i = .int .i64 k ∧ wr = w.drewN n ∧ Hid ((La.take k).map Lt.says = (Lb.take k).map Lt.says)) (fun i _ => La.length - (intOf i).toNat)
    case atStart => exact ⟨0, 0, by omega, rfl, rfl, rfl⟩
    case round =>
      obtain ⟨i, n, hi, rfl, rfl, HE⟩ := hrel
      by_cases hlt : i < La.length
      · have hltb : i < Lb.length := by omega
        obtain ⟨ga, oa, rfl, a0, a1, a2⟩ := lt_cells A1.out i hlt
        obtain ⟨gb, ob, rfl, b0, b1, b2⟩ := lt_cells B1.out i hltb
        have qa := fun m => conv_bytes ((A2.out La[i] (List.getElem_mem hlt)).below (below_drewN' w m))
        have qb := fun m => conv_bytes ((B2.out Lb[i] (List.getElem_mem hltb)).below (below_drewN' w m))
        obtain ⟨xa, xc, hxf⟩ := (A2.out La[i] (List.getElem_mem hlt)).form
        obtain ⟨ya, yc, hyf⟩ := (B2.out Lb[i] (List.getElem_mem hltb)).form
        rw [hxf] at qa
        rw [hyf] at qb
        have hi0 : (0 : Int) ≤ (i : Int) := by omega
        have hia : (i : Int) < La.length := by omega
        have hib : (i : Int) < Lb.length := by omega
        have HX : Hid (La[i].says ≠ Lb[i].says → sameB (La.map Lt.says) (Lb.map Lt.says) = false) := fun h => by
          unfold sameB; rw [decide_eq_false_iff_not]; intro e; apply h
          have h1 : (La.map Lt.says)[i]? = some La[i].says := by simp [hlt]
          have h2 : (Lb.map Lt.says)[i]? = some Lb[i].says := by simp [hltb]
          rw [e, h2] at h1
          injection h1 with h1
          exact h1.symm
        have HT : Hid (La[i].says = Lb[i].says → (La.take (i + 1)).map Lt.says = (Lb.take (i + 1)).map Lt.says) := fun h => by
          rw [List.take_succ_eq_append_getElem hlt, List.take_succ_eq_append_getElem hltb, List.map_append, List.map_append, HE.out, List.map_cons, List.map_cons, h]
        generalize La[i] = x at *
        generalize Lb[i] = y at *
        by_cases h1 : x.f = y.f
        · have e1 : (x.f != y.f) = false := by rw [h1]; simp
          by_cases h2 : x.t = y.t
          · have e2 : (x.t != y.t) = false := by rw [h2]; simp
            by_cases h3 : x.bs = y.bs
            · have HE' := Lib.hid (HT.out (by simp [Lt.says, h1, h2, h3]))
              have e3 : (!(x.bs == y.bs)) = false := by simp [h3]
              clear h1 h2 h3 HT HX HE
              have HE := HE'
              clear HE'
              go_wp2_with fail
              go_quiet (fail)
              go_wp2
              exact ⟨⟨i + 1, n + nq, by omega, by go_num, rfl, HE⟩, by simp [intOf]; omega⟩
            · have HF := Lib.hid (HX.out (by simp [Lt.says, h3]))
              have e3 : (!(x.bs == y.bs)) = true := by simp [h3]
              clear h1 h2 h3 HT HX HE
              go_wp2_with fail
              go_quiet (fail)
              go_wp2
              go_ret
              exact ⟨ret_bool (by rw [HF.out]), n + nq, World.drewN_drewN _ _ _⟩
          · have HF := Lib.hid (HX.out (by simp [Lt.says, h2]))
            have e2 : (x.t != y.t) = true := by simpa using h2
            clear h1 h2 HT HX HE
            go_wp2_with fail
            go_quiet (fail)
            go_wp2
            go_ret
            exact ⟨ret_bool (by rw [HF.out]), n + nq, by rw [World.drewN_drewN]⟩
        · have HF := Lib.hid (HX.out (by simp [Lt.says, h1]))
          have e1 : (x.f != y.f) = true := by simpa using h1
          clear h1 HT HX HE
          go_wp2_with fail
          go_quiet (fail)
          go_wp2
          go_ret
          exact ⟨ret_bool (by rw [HF.out]), n + nq, by rw [World.drewN_drewN]⟩
      · obtain rfl : i = La.length := by omega
        have HF : Hid (sameB (La.map Lt.says) (Lb.map Lt.says) = true) := by
          have := HE.out
          rw [List.take_length, HLEN.out, List.take_length] at this
          unfold Hid sameB
          rw [this]; simp
        clear hlt
        go_wp2
        go_ret
        exact ⟨ret_bool (by rw [HF.out]), _, rfl⟩
  · have hne : ((La.length : Int) != Lb.length) = true := by simp; omega
    have HF := Lib.hid (same_len (R := La.map Lt.says) (R' := Lb.map Lt.says) (by simpa using hlen))
    clear hlen
    go_enter Try.func16, Try.ntmps16
    go_wp2_with fail
    go_ret
    exact ⟨ret_bool (by rw [HF.out]), 0, rfl⟩
end Go.Proofs.Ytgkefciojoffgaa
