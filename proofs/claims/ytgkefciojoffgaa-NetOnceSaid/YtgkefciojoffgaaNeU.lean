/- The reference's Act: laws of memory, and what is refused. -/
import Derived.Test.YtgkefciojoffgaaNeT
namespace Go.Proofs.Ytgkefciojoffgaa
open Go.RowKit
set_option linter.unusedVariables false
set_option linter.unusedSimpArgs false
attribute [local go_sem ↓] Go.wp_at_zero Go.wp_at_succ
/-- a part of a row, as a source -/
theorem row_src {w : World} {g T : Nat} {cur : Array Value} {xs : List Value} {n : Nat} (h3 : w.heap[g]? = some (.cells cur T (0, 0))) (h7 : cur.toList.take n = xs) (lo m : Nat) (hm : lo + m ≤ n) : ∀ (j : Nat) (u : Value), ((xs.drop lo).take m)[j]? = some u → w.cell? (Addr.add ⟨g, lo, none⟩ j) = some u := by
  intro j u hu
  have hj : j < m := by
    rcases Nat.lt_or_ge j m with h | h
    · exact h
    · rw [List.getElem?_eq_none (by rw [List.length_take]; omega)] at hu; cases hu
  have e : Addr.add ⟨g, lo, none⟩ j = ⟨g, lo + j, none⟩ := by unfold Addr.add; split <;> simp_all
  rw [e, cell_of_row h3]
  rw [List.getElem?_take_of_lt hj, List.getElem?_drop, ← h7, List.getElem?_take_of_lt (by omega), Array.getElem?_toList] at hu
  exact hu
theorem part_len (xs : List Value) (lo m : Nat) (h : lo + m ≤ xs.length) : ((xs.drop lo).take m).length = m := by rw [List.length_take, List.length_drop]; omega
theorem part_one {xs : List Value} (h : ∀ u ∈ xs, u.oneCell' = true) (lo m : Nat) : ∀ u ∈ (xs.drop lo).take m, u.oneCell' = true := fun u hu => h u (List.mem_of_mem_drop (List.mem_of_mem_take hu))
theorem ract_close {B rp gb po : Nat} {G : Int} {v v' : Value} {L L' : List Lt} {c1 c2 c3 : Bool} {w V : World} (hBp : B ≤ rp) (hBg : B ≤ gb) (HN : RefV w rp gb G v L c1 c2 c3) (HL : LtsAt B w L) (HB : Below w.heap.size w V) (hpo : w.heap.size = po) (hpl : po < V.heap.size) {x0 x1 x2 : Value} (hP : V.heap[po]? = some (.cells #[x0, x1, x2] 30 (0, 0)))
    (hrow : V.ownsRow (po + 1) 30 3 v' L'.length (L'.flatMap Lt.cells)) (hLs : ∀ l ∈ L', l ∈ L) (y0 y1 y2 : Value) : RefEnd B rp gb G v L' c1 c2 c3 w ((((V.setCell ⟨rp, 1, none⟩ v').setCell ⟨po, 0, none⟩ y0).setCell ⟨po, 1, none⟩ y1).setCell ⟨po, 2, none⟩ y2) := by
  subst hpo
  have hrl := lt_of_block HN.1
  have hgl := lt_of_block HN.2.1
  have hne : gb ≠ rp := Ne.symm (ne_typed HN.1 HN.2.1 (by decide))
  have kA : Kept (· = rp) V (V.setCell ⟨rp, 1, none⟩ v') := Kept.setCell _ _ _ rfl
  have kB : Kept (· = w.heap.size) (V.setCell ⟨rp, 1, none⟩ v') ((((V.setCell ⟨rp, 1, none⟩ v').setCell ⟨w.heap.size, 0, none⟩ y0).setCell ⟨w.heap.size, 1, none⟩ y1).setCell ⟨w.heap.size, 2, none⟩ y2) := ((Kept.setCell (S := (· = w.heap.size)) _ _ _ rfl).trans (Kept.setCell (S := (· = w.heap.size)) _ _ _ rfl)).trans (Kept.setCell (S := (· = w.heap.size)) _ _ _ rfl)
  have hK : Kept (MineR rp gb v) w ((((V.setCell ⟨rp, 1, none⟩ v').setCell ⟨w.heap.size, 0, none⟩ y0).setCell ⟨w.heap.size, 1, none⟩ y1).setCell ⟨w.heap.size, 2, none⟩ y2) := by
    have h1 := ((Kept.of_below HB (fun k => k = rp ∨ k = w.heap.size)).trans (kA.mono fun k _ h => .inl h)).trans (kB.mono fun k _ h => .inr h)
    refine ⟨h1.os, h1.tape, h1.output, h1.size, fun k hk hn => h1.block k hk fun h => ?_⟩
    rcases h with rfl | rfl
    · exact hn (.inl rfl)
    · omega
  have hst := HN.stp hBp hBg hK
  have hne0 : ∀ j, v'.ownBlock ≠ some (⟨w.heap.size, j, none⟩ : Addr).block := fun j e => by have := (hrow.lt _ e).1; exact absurd this (by show ¬ w.heap.size + 1 ≤ w.heap.size; omega)
  have hne1 : v'.ownBlock ≠ some (⟨rp, 1, none⟩ : Addr).block := fun e => by have := (hrow.lt _ e).1; exact absurd this (by show ¬ w.heap.size + 1 ≤ rp; omega)
  have r1 := set_block (j := 1) (u := v') (stays_block HB HN.1)
  refine ⟨v', ⟨(kB.block rp (lt_of_block r1) (by omega)).trans r1, ?_, ?_⟩, fun l hl => (HL l (hLs l hl)).step hst, hK, .inr fun k hk => ?_⟩
  · have q1 := (kA.block gb (lt_of_block (stays_block HB HN.2.1)) hne).trans (stays_block HB HN.2.1)
    exact (kB.block gb (lt_of_block q1) (by omega)).trans q1
  · have q := ownsRow_setCell_other (a := ⟨rp, 1, none⟩) hrow hne1 v'
    have q := ownsRow_setCell_other (a := ⟨w.heap.size, 2, none⟩) (ownsRow_setCell_other (a := ⟨w.heap.size, 1, none⟩) (ownsRow_setCell_other (a := ⟨w.heap.size, 0, none⟩) q (hne0 0) y0) (hne0 1) y1) (hne0 2) y2
    obtain ⟨a, b⟩ := q
    refine ⟨a, ?_⟩
    rcases b with b | ⟨g, cap, cur, b1, b2, b3⟩
    · exact .inl b
    · exact .inr ⟨g, cap, cur, b1, by omega, b3⟩
  · have := (hrow.lt _ hk).1; omega
set_option maxHeartbeats 2000000 in
set_option maxRecDepth 1000000 in
theorem ract_arg (rp gb : Nat) (G : Int) (v : Value) (L : List Lt) (c1 c2 c3 : Bool) (d k : Int) (w : World) (hN : RefV w rp gb G v L c1 c2 c3) (hk : k < 0 ∨ (L.length : Int) ≤ k) :
    Calls Try.prog 21 #[.pointer (some ⟨rp, 0, none⟩), .int .u8 d, .int .i64 k] w fun e w' => e = .returned (.tuple #[letter0, .int .i64 1]) ∧ Below w.heap.size w w' := by
  have hb0 := below_alloc w (.cells #[.int .i64 0, .int .i64 0, .slice none 0 0] 30)
  obtain ⟨z0, n0, n1, n2⟩ := three_cells (stays_block hb0 hN.1)
  obtain ⟨a, c, rfl⟩ := net_form hN.2.2
  have HB := Lib.hid hb0
  clear hN hb0
  by_cases h : k < 0
  · clear hk
    go_enter Try.func21, Try.ntmps21
    go_wp2_with fail
    exact bodyPost_ret (v := .tuple #[letter0, .int .i64 1]) (by simp [results, letter0, Try.results21, go_sem]) rfl ⟨rfl, HB.out⟩
  · have hk : (L.length : Int) ≤ k := by omega
    go_enter Try.func21, Try.ntmps21
    go_wp2_with fail
    exact bodyPost_ret (v := .tuple #[letter0, .int .i64 1]) (by simp [results, letter0, Try.results21, go_sem]) rfl ⟨rfl, HB.out⟩
end Go.Proofs.Ytgkefciojoffgaa
