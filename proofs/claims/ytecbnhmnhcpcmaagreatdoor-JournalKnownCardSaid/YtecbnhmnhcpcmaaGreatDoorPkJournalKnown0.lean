/- Small lemmas on worlds, cells and endings that the walks of all layers use. No program. -/
import Derived.WalkKit
import Derived.Deep.QuietTactic
import Derived.BigQuiet
import Derived.Handy
import Derived.IntWalk
import Derived.Lib.Hide
import Derived.ShutString
import Derived.Lib.AppendIntMem
import Derived.Lib.Strings
import Derived.WalkSpells
import Derived.Laws.AppendOwn
import Derived.Laws.OwnMore
import Derived.OneCell
/-! Small lemmas on worlds, cells and endings that the walks of all layers use. No program. -/
namespace Go.Proofs.YtecbnhmnhcpcmaaGreatDoor
open Go.RowKit
set_option linter.unusedVariables false
set_option linter.unusedSimpArgs false
theorem ret_int {k : IntKind} {a b : Int} (h : a = b) : Ending.returned (.int k a) = .returned (.int k b) := by rw [h]
theorem ret_bool {a b : Bool} (h : a = b) : Ending.returned (.bool a) = .returned (.bool b) := by rw [h]
theorem ret_str {a b : ByteArray} (h : a = b) : Ending.returned (.string a) = .returned (.string b) := by rw [h]
theorem ret2 {k l : IntKind} {a b c d : Int} (h : a = b) (h' : c = d) : Ending.returned (.tuple #[.int k a, .int l c]) = .returned (.tuple #[.int k b, .int l d]) := by rw [h, h']
theorem World.below_drewN {B : Nat} {w W : World} (h : Below B w W) (n : Nat) : Below B w (W.drewN n) := ⟨h.os, h.tape, h.output, h.size, h.block⟩
theorem bcell {W w1 : World} (hb : Below W.heap.size W w1) : (∀ b o, b < W.heap.size → w1.cell? ⟨b, o, none⟩ = W.cell? ⟨b, o, none⟩) ∧ (∀ b o, b < W.heap.size → w1.frozen? ⟨b, o, none⟩ = W.frozen? ⟨b, o, none⟩) :=
  ⟨fun b o h => hb.cell (p := ⟨b, o, none⟩) h, fun b o h => hb.frozen (p := ⟨b, o, none⟩) h⟩
theorem below_box {w w1 : World} {o : Obj} (h : Below (w.alloc o).heap.size (w.alloc o) w1) : Below w.heap.size w w1 :=
  ((Below.refl _ _).alloc (Nat.le_refl _) _).trans (h.mono (by simp))
theorem stays {W W1 : World} {a : Addr} {v : Value} (hb : Below W.heap.size W W1) (h : W.cell? a = some v) : W1.cell? a = some v := (hb.cell (World.block_lt_of_cell? W _ h)).trans h
theorem onward {w W W1 : World} (hb : Below W.heap.size W W1) (h : Below w.heap.size w W) : Below w.heap.size w W1 := h.trans (hb.mono h.size)
theorem below_alloc (W : World) (o : Obj) : Below W.heap.size W (W.alloc o) := (Below.refl _ _).alloc (Nat.le_refl _) o
theorem via1 {w W1 : World} {ob : Obj} (hb : Below (w.alloc ob).drew.heap.size (w.alloc ob).drew W1) : Below w.heap.size w W1 := (below_alloc w ob).drew.trans (hb.mono (by simp))
theorem stays_block {W W1 : World} {b : Nat} {ob : Obj} (hb : Below W.heap.size W W1) (h : W.heap[b]? = some ob) : W1.heap[b]? = some ob := by
  rw [hb.block b (lt_of_block h)]; exact h
theorem base_ok {w w1 : World} {o : Nat} {ob ob' : Obj} (h : w.heap[o]? = some ob) (hb : Below w.heap.size w w1) : o + 1 ≤ (w1.alloc ob').heap.size := by
  have h1 := lt_of_block h
  have h2 := hb.size
  simp; omega
theorem grown_keeps {W W3 : World} {o : Nat} {e : TypeId} {size : Nat} {v : Value} {n : Nat} {xs : List Value} {ob : Obj} (hown : W.ownsRow (o + 1) e size v n xs) (hg : W.grownBy W3 v.ownBlock) (h : W.heap[o]? = some ob) : W3.heap[o]? = some ob := by
  rw [hg.block o (lt_of_block h) (fun e => by have := (hown.lt o e.symm).1; omega)]; exact h
theorem bcat (a b : List UInt8) : (⟨a.toArray⟩ ++ ⟨b.toArray⟩ : ByteArray) = ⟨(a ++ b).toArray⟩ := by
  apply ByteArray.ext
  rw [ByteArray.data_append]
  simp
theorem baIsEmpty (s : ByteArray) : s.toList.isEmpty = s.data.toList.isEmpty := by
  rw [ByteArray.toList_eq]
theorem sizeMk (l : List UInt8) : (ByteArray.mk l.toArray).size = l.length := by simp [ByteArray.size]
theorem size_list (s : ByteArray) : s.data.toList.length = s.size := by rw [Array.length_toList]; rfl
theorem getD_at {α : Type} (l : List α) (k : Nat) (d : α) (h : k < l.length) : l.getD k d = l[k] := by simp [List.getD, h]
theorem ext_take (s : ByteArray) (j : Nat) : (s.extract 0 j).data.toList = s.data.toList.take j := by rw [Lib.extract_data]; simp
theorem ext_mid (s : ByteArray) (a b : Nat) : (s.extract a b).data.toList = (s.data.toList.drop a).take (b - a) := Lib.extract_data s a b
theorem ext_end (s : ByteArray) (a : Nat) : (s.extract a s.size).data.toList = s.data.toList.drop a := by
  rw [Lib.extract_data, List.take_of_length_le]
  rw [List.length_drop, Array.length_toList]
  exact Nat.le_refl _
theorem toNat_v {n : Int} (h : 0 ≤ n) : ((n.toNat : Nat) : Int) = n := by omega
theorem toList_ne {a b : ByteArray} (h : ¬ a = b) : (a.toList == b.toList) = false := by
  rw [beq_eq_false_iff_ne, ByteArray.toList_eq, ByteArray.toList_eq]
  exact fun e => h (ByteArray.ext (Array.toList_inj.1 e))
theorem ownsRow_below {W W' : World} {base : Nat} {e : TypeId} {size : Nat} {v : Value} {n : Nat} {xs : List Value} (h : W.ownsRow base e size v n xs) (hb : Below W.heap.size W W') : W'.ownsRow base e size v n xs := by
  obtain ⟨hl, h⟩ := h
  refine ⟨hl, ?_⟩
  rcases h with h | ⟨g, cap, cur, h1, h2, h3, h4⟩
  · exact .inl h
  · refine .inr ⟨g, cap, cur, h1, h2, ?_, h4⟩
    have hg : g < W.heap.size := by
      rcases Nat.lt_or_ge g W.heap.size with c | c
      · exact c
      · rw [Array.getElem?_eq_none c] at h3; cases h3
    rw [hb.block g hg]; exact h3
theorem owned_below {w W W' : World} {e : TypeId} {size : Nat} {v : Value} {n : Nat} {xs : List Value} (h : W.ownsRow w.heap.size e size v n xs) (hb : Below w.heap.size w W) (hg : W.grownBy W' v.ownBlock) : Below w.heap.size w W' :=
  hb.grown hg hb.size (fun k hk => (h.lt k hk).1)
theorem new_cells (W : World) (l : List Value) (T : Nat) : ∀ (j : Nat) (u : Value), l[j]? = some u → (W.alloc (.cells l.toArray T)).cell? (Addr.add ⟨W.heap.size, 0, none⟩ j) = some u := by
  intro j u h
  have e : Addr.add ⟨W.heap.size, 0, none⟩ j = ⟨W.heap.size, j, none⟩ := by simp [Addr.add]; omega
  rw [e, World.cell?_alloc_new]
  simpa using h
theorem one2 (a : ByteArray) (k : IntKind) (x : Int) : ∀ u : Value, u ∈ [Value.string a, .int k x] → u.oneCell' = true := by
  intro u hu
  simp only [List.mem_cons, List.not_mem_nil, or_false] at hu
  rcases hu with rfl | rfl <;> rfl
theorem own_form {w : World} {base : Nat} {e : TypeId} {size : Nat} {v : Value} {n : Nat} {xs : List Value} (h : w.ownsRow base e size v n xs) (hn : 1 ≤ n) : ∃ g cap, v = .slice (some ⟨g, 0, none⟩) n cap := by
  obtain ⟨_, ⟨_, h0⟩ | ⟨g, cap, cur, h1, _⟩⟩ := h
  · omega
  · exact ⟨g, cap, h1⟩
end Go.Proofs.YtecbnhmnhcpcmaaGreatDoor
