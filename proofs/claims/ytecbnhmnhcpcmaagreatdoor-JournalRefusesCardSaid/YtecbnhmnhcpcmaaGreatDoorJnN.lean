/- The walk of journal.Post: plain answer, and up to the balances. -/
import Derived.Test.YtecbnhmnhcpcmaaGreatDoorJnM
namespace Go.Proofs.YtecbnhmnhcpcmaaGreatDoor
open Go.RowKit Go.WideMaps Go.Maps
set_option linter.unusedVariables false
set_option linter.unusedSimpArgs false
set_option maxRecDepth 100000
/-- a store of the journal: numbers are eight bytes -/
def WFJ (D : DM) : Prop := ∀ k b, (k.head? = some 98 ∨ k = [113]) → gt D k = some b → b.length = 8
theorem WFJ.num {D : DM} (h : WFJ D) {k : Bs} (hk : k.head? = some 98 ∨ k = [113]) : (numAt D k).2 = 0 ∧ 0 ≤ (numAt D k).1 ∧ (numAt D k).1 < 18446744073709551616 := by
  unfold numAt
  cases hg : gt D k with
  | none => simp
  | some b =>
    have h8 := h k b hk hg
    simp only
    rw [if_pos h8]
    have := unbig_lt b
    rw [h8] at this
    refine ⟨rfl, ?_, ?_⟩
    · show (0 : Int) ≤ ((unbig b : Nat) : Int)
      omega
    · show ((unbig b : Nat) : Int) < 18446744073709551616
      omega
noncomputable def nbV (D : DM) (p : Pt) : Int × Int := sumE [(balV D p.a).1, p.n]
noncomputable def overB (D : DM) (p : Pt) : Bool := decide ((nbV D p).2 ≠ 0 ∨ (nbV D p).1 < -4611686018427387904 ∨ 4611686018427387904 < (nbV D p).1)
def lastN (D : DM) : Nat := (numAt D [113]).1.toNat
def setAll (room : Int) : DM → List (Bs × Nat) → Int × DM
  | D, [] => (0, D)
  | D, (k, x) :: r => if setE room D k x ≠ 0 then (setE room D k x, setD room D k x) else setAll room (setD room D k x) r
noncomputable def postF (room : Int) (D : DM) (time : Int) (ten : Nat) (L : List Pt) : Int × Int × DM :=
  if ¬ (postsB 1 time L = true ∧ mayJ L = true) then (0, 1, D)
  else if ¬ (evenB allP L = true ∧ evenB unitP L = true) then (0, 32, D)
  else if L.any (overB D) = true then (0, 30, D)
  else if putE room D (106 :: big8 (lastN D + 1)) (postL (lastN D + 1) time ten L) ≠ 0 then (0, putE room D (106 :: big8 (lastN D + 1)) (postL (lastN D + 1) time ten L), D)
  else if (setAll room (pt D (106 :: big8 (lastN D + 1)) (postL (lastN D + 1) time ten L)) (L.map fun p => (balK p.a, toU (nbV D p).1))).1 ≠ 0 then (0, setAll room (pt D (106 :: big8 (lastN D + 1)) (postL (lastN D + 1) time ten L)) (L.map fun p => (balK p.a, toU (nbV D p).1)))
  else ((lastN D + 1 : Nat), setE room (setAll room (pt D (106 :: big8 (lastN D + 1)) (postL (lastN D + 1) time ten L)) (L.map fun p => (balK p.a, toU (nbV D p).1))).2 [113] (lastN D + 1), setD room (setAll room (pt D (106 :: big8 (lastN D + 1)) (postL (lastN D + 1) time ten L)) (L.map fun p => (balK p.a, toU (nbV D p).1))).2 [113] (lastN D + 1))
def PostEnd (p b1 b2 n : Nat) (room : Int) (D2 : DM) (r : Int × Int × DM) (w : World) (e : Ending) (w' : World) : Prop := e = .returned (.tuple #[.int .u64 r.1, .int .i64 r.2.1]) ∧ MemS w' p b1 b2 room n r.2.2 D2 ∧ Turned b1 w w'
theorem PostEnd.same {p b1 b2 n m : Nat} {room : Int} {D D2 : DM} {r : Int × Int × DM} {x : Int} {w w' : World} {e : Ending} (hr : r = (0, x, D)) (hM : MemS w p b1 b2 room n D D2) (hb : Below w.heap.size w w') (hm : n ≤ m) (he : e = .returned (.tuple #[.int .u64 0, .int .i64 x])) : PostEnd p b1 b2 m room D2 r w e w' := by
  subst hr
  exact ⟨he, (hM.below hb).mono hm, .of_below hb hM.now.isM⟩
theorem PostEnd.mk {p b1 b2 n : Nat} {room : Int} {D D2 : DM} {r : Int × Int × DM} {x y : Int} {w w' : World} {e : Ending} (hr : r = (x, y, D)) (hM : MemS w' p b1 b2 room n D D2) (ht : Turned b1 w w') (he : e = .returned (.tuple #[.int .u64 x, .int .i64 y])) : PostEnd p b1 b2 n room D2 r w e w' := by
  subst hr
  exact ⟨he, hM, ht⟩
theorem pt_rows (L : List Pt) : ∀ r ∈ L.map Pt.cells, r.length = 2 := fun r hr => by
  obtain ⟨p, -, rfl⟩ := List.mem_map.1 hr
  rfl
theorem zeroI64 (w : World) : (zeroValue 2).run Tryz.prog w = .ok (.int .i64 0) w := by kernel_rfl
/-- a balance, looked up in whatever world holds the map -/
theorem bal_look {w : World} {m n : Nat} {D : DM} {L : List Pt} {q : Pt} (ho : w.ownsMap Tryz.prog 9 (plainElem Tryz.prog 2) m n (putAll (fun p => .lit (.int .i64 (nbV D p).1)) L)) (hA : apartB L = true) (hq : q ∈ L) (hs : q.a.size ≤ 100) :
    ∀ W : World, W.heap[m]? = w.heap[m]? → (Instr.lookup 86 (.map (some m)) (.string q.a) false).run Tryz.prog W = .ok (.int .i64 (nbV D q).1) W := fun W hW => by
  have ho2 : W.ownsMap Tryz.prog 9 (plainElem Tryz.prog 2) m n (putAll (fun p => .lit (.int .i64 (nbV D p).1)) L) := by
    obtain ⟨es, c, h1, h2⟩ := ho
    exact ⟨es, c, hW.trans h1, h2⟩
  obtain ⟨c, hrun, hat, -⟩ := ho2.lookup_int keyStr Tryz.underlying86 Tryz.underlying2 (zeroI64 _) (key_ba q.a (by omega))
  have h3 := putAll_hit (fun p => (.lit (.int .i64 (nbV D p).1) : DM)) (.lit (.int .i64 0)) L hA q hq
  unfold keyP at h3
  rw [hat] at h3
  injection h3 with h3
  injection h3 with _ h3
  rw [← h3]
  exact hrun
theorem Turned.rows {b : Nat} {w w' : World} {v : Value} {size : Nat} {rows : List (List Value)} (h : Turned b w w') (hr : RowsIn w v size rows) (hz : ∀ r ∈ rows, r.length = size) : RowsIn w' v size rows := by
  obtain ⟨a, c, h1, h2, h3, h4⟩ := hr
  refine ⟨a, c, h1, h2, h3, fun i hi => ?_⟩
  obtain ⟨g, o, h5, h6, h7⟩ := h4 i hi
  refine ⟨g, o, h5, Nat.lt_of_lt_of_le h6 h.grown.size, fun j hj => ?_⟩
  have hl : (rows.getD i []).length = size := by
    rw [List.getD_eq_getElem?_getD, List.getElem?_eq_getElem hi]
    exact hz _ (List.getElem_mem hi)
  have hs := h7 j hj
  rw [List.getElem?_eq_getElem (by omega)] at hs ⊢
  exact h.cell hs
theorem Turned.set {b q j : Nat} {w w1 : World} (h : Turned b w w1) (hq : w.heap.size ≤ q) (u : Value) : Turned b w (w1.setCell ⟨q, j, none⟩ u) := by
  have k := Kept.setCell (S := fun k => k = q) w1 ⟨q, j, none⟩ u rfl
  refine ⟨⟨k.os.trans h.grown.os, k.tape.trans h.grown.tape, k.output.trans h.grown.output, Nat.le_trans h.grown.size k.size, fun i hi hne => ?_⟩, h.isM⟩
  rw [k.block i (Nat.lt_of_lt_of_le hi h.grown.size) (by omega)]
  exact h.grown.block i hi hne
end Go.Proofs.YtecbnhmnhcpcmaaGreatDoor
