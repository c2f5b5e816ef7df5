/- The walks of maps.Clone, and of a store's Commit and Abort. -/
import Derived.Test.YtecbnhmnhcpcmaaGreatDoorPkJournalEven32
/-! The walks of maps.Clone, and of a store's Commit and Abort. -/
namespace Go.Proofs.YtecbnhmnhcpcmaaGreatDoor
open Go.RowKit Go.WideMaps Go.Maps
set_option linter.unusedVariables false
set_option linter.unusedSimpArgs false
set_option maxRecDepth 100000
set_option maxHeartbeats 1000000 in
theorem mclone_any {b n : Nat} {D : DM} (w : World) (hown : OwnM w b n D) : Calls Tryz.prog 45 #[.map (some b)] w fun e w' => e = .returned (.map (some w.heap.size)) ∧ OwnM w' w.heap.size n D ∧ OwnM w' b n D ∧ Below w.heap.size w w' := by
  have hlt := hown.lt
  obtain ⟨es, clock, hb, F, hs, hD⟩ := hown
  have key : Calls Tryz.prog 45 #[.map (some b)] w fun e w' => e = .returned (.map (some w.heap.size)) ∧ w' = w.alloc (.map es clock) := by
    have hq := fun w => run_eql_map_nil_sl (P := Tryz.prog) w 77 _ _ (some b) Tryz.underlying77
    go_enter Tryz.func45, Tryz.ntmps45
    go_wp2_with fail
    rw [run_callFunc_extern Tryz.func74 (by kernel_rfl) (by kernel_rfl) (by kernel_rfl) (e := Extern.MapsClone.clone) (by kernel_rfl), run_maps_clone_sl w 77 hb]
    simp only [Result.andThen]
    rw [Oper.upon_value]
    go_wp2_with fail
    rw [run_typeAssert_map_sl _ 77 20 _ _ _ Tryz.underlying77]
    simp only [Result.andThen]
    rw [Oper.upon_value]
    go_wp2_with fail
    go_ret
    exact ⟨rfl, rfl⟩
  refine key.mono fun e w' ⟨he, hw⟩ => ?_
  subst hw
  have hB : Below w.heap.size w (w.alloc (.map es clock)) := below_alloc _ _
  exact ⟨he, ⟨es, clock, (MapKept.heap_alloc w _).1, F, hs, hD⟩, ⟨es, clock, (Below.heap_alloc _ _ b hlt).trans hb, F, hs, hD⟩, hB⟩
theorem box_set {w : World} {p k : Nat} {x0 x1 x2 : Value} {T : Nat} {u : Value} (h : w.heap[p]? = some (.cells #[x0, x1, x2] T (0, 0))) : (w.setCell ⟨p, k, none⟩ u).heap[p]? = some (.cells (#[x0, x1, x2].setIfInBounds k u) T (0, 0)) := by
  unfold World.setCell
  simp only [Array.getElem?_modify, if_true, h]
  rfl
theorem grown_set {w w1 : World} {p k : Nat} {u : Value} (h : Below w.heap.size w w1) : w.grownBy (w1.setCell ⟨p, k, none⟩ u) (some p) := by
  have k2 := Kept.setCell (S := fun k => k = p) w1 ⟨p, k, none⟩ u rfl
  refine ⟨k2.os.trans h.os, k2.tape.trans h.tape, k2.output.trans h.output, Nat.le_trans h.size k2.size, fun i hi hne => ?_⟩
  rw [k2.block i (Nat.lt_of_lt_of_le hi h.size) (fun e => hne (by rw [e]))]
  exact h.block i hi
theorem heap_set_ne {w : World} {p k b : Nat} {u : Value} (hne : b ≠ p) (hb : b < w.heap.size) : (w.setCell ⟨p, k, none⟩ u).heap[b]? = w.heap[b]? :=
  (Kept.setCell (S := fun k => k = p) w ⟨p, k, none⟩ u rfl).block b hb hne
set_option maxHeartbeats 1000000 in
theorem commit_any {p b1 b2 n : Nat} {room : Int} {D D2 : DM} (w : World) (hM : MemS w p b1 b2 room n D D2) : Calls Tryz.prog 21 #[.pointer (some ⟨p, 0, none⟩)] w fun e w' => e = .returned (.int .i64 0) ∧ MemS w' p b1 w.heap.size room n D D ∧ w.grownBy w' (some p) := by
  have HM := Lib.hid hM
  have CX := Lib.hid (mclone_any w hM.now)
  obtain ⟨-, c1, -⟩ := box3c hM.box
  clear hM
  go_enter Tryz.func21, Tryz.ntmps21
  go_wp2_with fail
  refine CX.out.mono ?_
  rintro e w1 ⟨rfl, ho, ho1, hb⟩
  have BX := stays_block hb HM.out.box
  obtain ⟨-, -, c2⟩ := box3c BX
  have hf : w1.frozen? ⟨p, 2, none⟩ = false := free_of_row BX
  have GW : Hid (w.grownBy (w1.setCell ⟨p, 2, none⟩ (.map (some w.heap.size))) (some p)) := grown_set hb
  have hpl := lt_of_block HM.out.box
  have MW : Hid (MemS (w1.setCell ⟨p, 2, none⟩ (.map (some w.heap.size))) p b1 w.heap.size room n D D) :=
    ⟨box_set BX, ho1.same (heap_set_ne HM.out.ne1.symm ho1.lt), OwnM.same ho (heap_set_ne (by omega) ho.lt), by have := HM.out.now.lt; omega⟩
  clear ho ho1 hb CX BX c1 hpl
  go_wp2_with fail
  go_ret
  exact ⟨rfl, MW.out, GW.out⟩
set_option maxHeartbeats 1000000 in
theorem abort_any {p b1 b2 n : Nat} {room : Int} {D D2 : DM} (w : World) (hM : MemS w p b1 b2 room n D D2) : Calls Tryz.prog 22 #[.pointer (some ⟨p, 0, none⟩)] w fun e w' => e = .returned (.tuple #[]) ∧ MemS w' p w.heap.size b2 room n D2 D2 ∧ w.grownBy w' (some p) := by
  have HM := Lib.hid hM
  have CX := Lib.hid (mclone_any w hM.was)
  obtain ⟨-, -, c2⟩ := box3c hM.box
  clear hM
  go_enter Tryz.func22, Tryz.ntmps22
  go_wp2_with fail
  refine CX.out.mono ?_
  rintro e w1 ⟨rfl, ho, ho1, hb⟩
  have BX := stays_block hb HM.out.box
  obtain ⟨-, c1, -⟩ := box3c BX
  have hf : w1.frozen? ⟨p, 1, none⟩ = false := free_of_row BX
  have GW : Hid (w.grownBy (w1.setCell ⟨p, 1, none⟩ (.map (some w.heap.size))) (some p)) := grown_set hb
  have hpl := lt_of_block HM.out.box
  have MW : Hid (MemS (w1.setCell ⟨p, 1, none⟩ (.map (some w.heap.size))) p w.heap.size b2 room n D2 D2) :=
    ⟨box_set BX, OwnM.same ho (heap_set_ne (by omega) ho.lt), ho1.same (heap_set_ne HM.out.ne2.symm ho1.lt), by have := HM.out.was.lt; omega⟩
  clear ho ho1 hb CX BX c2 hpl
  go_wp2_with fail
  go_end0
  exact ⟨rfl, MW.out, GW.out⟩
theorem pairsR_len {D : DM} (h : IsMap D) : (pairsR D [] []).length = size D := by
  obtain ⟨es, rfl⟩ := h
  unfold pairsR keysR
  rw [List.length_map, List.length_mergeSort, List.filter_eq_self.2 (fun k _ => by cases k <;> rfl)]
  show (es.map _).length = es.length
  rw [List.length_map]
theorem nil_bytes (w : World) : BytesAt 0 w (.slice none 0 0) [] := ⟨none, 0, rfl, fun _ => rfl, fun i hi => by simp at hi⟩
end Go.Proofs.YtecbnhmnhcpcmaaGreatDoor
