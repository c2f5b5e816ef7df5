/- Small lemmas on worlds, cells and endings that the walks of all layers use. No program. Laws of memory for rows of letters: cells stored in a row, 'clear', and the walk of slices.Delete at letters. Letters in memory; the net in memory; the walks of slices.Clone at bytes, net.whole, gate. A drawn region's operations that only read are taken first, by a plan that is checked once. No program. -/
import Derived.WalkKit
import Derived.Deep.QuietTactic
import Derived.BigQuiet
import Derived.Handy
import Derived.IntWalk
import Derived.Lib.Hide
import Derived.ShutString
import Derived.Lib.AppendIntMem
import Derived.Lib.Strings
import Derived.WalkSpells
import Derived.Laws.AppendOwn
import Derived.Laws.OwnMore
import Derived.OneCell
import Derived.Test.YtcaihncnmjegoaaGreatDoorProg
import Derived.Lib.SliceRun
import Derived.Deep.RegionLaw
import Derived.Deep.RegionHeld3
import Derived.WalkLawsBesides
import Derived.Deep.DrawnRows
/-! Small lemmas on worlds, cells and endings that the walks of all layers use. No program. -/
namespace Go.Proofs.YtcaihncnmjegoaaGreatDoor
open Go.RowKit
set_option linter.unusedVariables false
set_option linter.unusedSimpArgs false
theorem ret_bool {a b : Bool} (h : a = b) : Ending.returned (.bool a) = .returned (.bool b) := by rw [h]
theorem ret_str {a b : ByteArray} (h : a = b) : Ending.returned (.string a) = .returned (.string b) := by rw [h]
theorem World.below_drewN {B : Nat} {w W : World} (h : Below B w W) (n : Nat) : Below B w (W.drewN n) := ⟨h.os, h.tape, h.output, h.size, h.block⟩
theorem stays {W W1 : World} {a : Addr} {v : Value} (hb : Below W.heap.size W W1) (h : W.cell? a = some v) : W1.cell? a = some v := (hb.cell (World.block_lt_of_cell? W _ h)).trans h
theorem onward {w W W1 : World} (hb : Below W.heap.size W W1) (h : Below w.heap.size w W) : Below w.heap.size w W1 := h.trans (hb.mono h.size)
theorem below_alloc (W : World) (o : Obj) : Below W.heap.size W (W.alloc o) := (Below.refl _ _).alloc (Nat.le_refl _) o
theorem stays_block {W W1 : World} {b : Nat} {ob : Obj} (hb : Below W.heap.size W W1) (h : W.heap[b]? = some ob) : W1.heap[b]? = some ob := by
  rw [hb.block b (lt_of_block h)]; exact h
theorem bcat (a b : List UInt8) : (⟨a.toArray⟩ ++ ⟨b.toArray⟩ : ByteArray) = ⟨(a ++ b).toArray⟩ := by
  apply ByteArray.ext
  rw [ByteArray.data_append]
  simp
theorem baIsEmpty (s : ByteArray) : s.toList.isEmpty = s.data.toList.isEmpty := by
  rw [ByteArray.toList_eq]
theorem sizeMk (l : List UInt8) : (ByteArray.mk l.toArray).size = l.length := by simp [ByteArray.size]
theorem size_list (s : ByteArray) : s.data.toList.length = s.size := by rw [Array.length_toList]; rfl
theorem getD_at {α : Type} (l : List α) (k : Nat) (d : α) (h : k < l.length) : l.getD k d = l[k] := by simp [List.getD, h]
theorem toList_ne {a b : ByteArray} (h : ¬ a = b) : (a.toList == b.toList) = false := by
  rw [beq_eq_false_iff_ne, ByteArray.toList_eq, ByteArray.toList_eq]
  exact fun e => h (ByteArray.ext (Array.toList_inj.1 e))
theorem ownsRow_below {W W' : World} {base : Nat} {e : TypeId} {size : Nat} {v : Value} {n : Nat} {xs : List Value} (h : W.ownsRow base e size v n xs) (hb : Below W.heap.size W W') : W'.ownsRow base e size v n xs := by
  obtain ⟨hl, h⟩ := h
  refine ⟨hl, ?_⟩
  rcases h with h | ⟨g, cap, cur, h1, h2, h3, h4⟩
  · exact .inl h
  · refine .inr ⟨g, cap, cur, h1, h2, ?_, h4⟩
    have hg : g < W.heap.size := by
      rcases Nat.lt_or_ge g W.heap.size with c | c
      · exact c
      · rw [Array.getElem?_eq_none c] at h3; cases h3
    rw [hb.block g hg]; exact h3
theorem owned_below {w W W' : World} {e : TypeId} {size : Nat} {v : Value} {n : Nat} {xs : List Value} (h : W.ownsRow w.heap.size e size v n xs) (hb : Below w.heap.size w W) (hg : W.grownBy W' v.ownBlock) : Below w.heap.size w W' :=
  hb.grown hg hb.size (fun k hk => (h.lt k hk).1)
theorem new_cells (W : World) (l : List Value) (T : Nat) : ∀ (j : Nat) (u : Value), l[j]? = some u → (W.alloc (.cells l.toArray T)).cell? (Addr.add ⟨W.heap.size, 0, none⟩ j) = some u := by
  intro j u h
  have e : Addr.add ⟨W.heap.size, 0, none⟩ j = ⟨W.heap.size, j, none⟩ := by simp [Addr.add]; omega
  rw [e, World.cell?_alloc_new]
  simpa using h
theorem one2 (a : ByteArray) (k : IntKind) (x : Int) : ∀ u : Value, u ∈ [Value.string a, .int k x] → u.oneCell' = true := by
  intro u hu
  simp only [List.mem_cons, List.not_mem_nil, or_false] at hu
  rcases hu with rfl | rfl <;> rfl
end Go.Proofs.YtcaihncnmjegoaaGreatDoor

/-! Laws of memory for rows of letters: cells stored in a row, 'clear', and the walk of slices.Delete at letters. -/
namespace Go.Proofs.YtcaihncnmjegoaaGreatDoor
open Go.RowKit
set_option linter.unusedVariables false
set_option linter.unusedSimpArgs false
theorem set_block {w : World} {b j : Nat} {cs : Array Value} {T : Nat} {u : Value} (h : w.heap[b]? = some (.cells cs T (0, 0))) : (w.setCell ⟨b, j, none⟩ u).heap[b]? = some (.cells (cs.setIfInBounds j u) T (0, 0)) := by
  have hlt := lt_of_block h
  have h' : w.heap[b] = .cells cs T (0, 0) := by simpa [Array.getElem?_eq_getElem hlt] using h
  show (w.heap.modify b _)[b]? = _
  rw [Array.getElem?_eq_getElem (by simpa using hlt), Array.getElem_modify_self, h']
  rfl
def setL (cs : Array Value) : Nat → List Value → Array Value
  | _, [] => cs
  | o, v :: r => setL (cs.setIfInBounds o v) (o + 1) r
theorem setL_size : ∀ (vs : List Value) (cs : Array Value) (o : Nat), (setL cs o vs).size = cs.size
  | [], _, _ => rfl
  | v :: r, cs, o => by rw [setL, setL_size r]; simp
theorem setL_list : ∀ (vs : List Value) (cs : Array Value) (o : Nat), o + vs.length ≤ cs.size → (setL cs o vs).toList = cs.toList.take o ++ (vs ++ cs.toList.drop (o + vs.length))
  | [], cs, o, h => by simp [setL]
  | v :: r, cs, o, h => by
    simp only [List.length_cons] at h
    rw [setL, setL_list r _ _ (by simp; omega), Array.toList_setIfInBounds]
    have ho : o < cs.toList.length := by simp; omega
    have e1 : (cs.toList.set o v).take (o + 1) = cs.toList.take o ++ [v] := by
      rw [List.take_succ_eq_append_getElem (by simpa using ho), List.take_set_of_le (Nat.le_refl _), List.getElem_set_self]
    have e2 : (cs.toList.set o v).drop (o + 1 + r.length) = cs.toList.drop (o + 1 + r.length) := by
      rw [List.drop_set_of_lt (by omega)]
    rw [e1, e2, List.length_cons, show o + (r.length + 1) = o + 1 + r.length from by omega]
    simp
theorem setCells_block : ∀ (vs : List Value) (w : World) (g o : Nat) (cs : Array Value) (T : Nat), w.heap[g]? = some (.cells cs T (0, 0)) → (w.setCells g o vs).heap[g]? = some (.cells (setL cs o vs) T (0, 0))
  | [], w, g, o, cs, T, h => h
  | v :: r, w, g, o, cs, T, h => by rw [World.setCells, setL]; exact setCells_block r _ g (o + 1) _ T (set_block h)
/-- only the blocks of S have turned; new ones may have come -/
structure Kept (S : Nat → Prop) (w w' : World) : Prop where
  os : w'.os = w.os
  tape : w'.tape = w.tape
  output : w'.output = w.output
  size : w.heap.size ≤ w'.heap.size
  block : ∀ k, k < w.heap.size → ¬ S k → w'.heap[k]? = w.heap[k]?
theorem Kept.refl (S : Nat → Prop) (w : World) : Kept S w w := ⟨rfl, rfl, rfl, Nat.le_refl _, fun _ _ _ => rfl⟩
theorem Kept.trans {S : Nat → Prop} {a b c : World} (h : Kept S a b) (k : Kept S b c) : Kept S a c :=
  ⟨k.os.trans h.os, k.tape.trans h.tape, k.output.trans h.output, Nat.le_trans h.size k.size, fun i hi hs => (k.block i (Nat.lt_of_lt_of_le hi h.size) hs).trans (h.block i hi hs)⟩
theorem Kept.mono {S S' : Nat → Prop} {w w' : World} (h : Kept S w w') (hs : ∀ k, k < w.heap.size → S k → S' k) : Kept S' w w' :=
  ⟨h.os, h.tape, h.output, h.size, fun k hk hn => h.block k hk fun hq => hn (hs k hk hq)⟩
theorem Kept.of_below {w w' : World} (h : Below w.heap.size w w') (S : Nat → Prop) : Kept S w w' := ⟨h.os, h.tape, h.output, h.size, fun k hk _ => h.block k hk⟩
theorem Kept.below {S : Nat → Prop} {B : Nat} {w w' : World} (h : Kept S w w') (hB : B ≤ w.heap.size) (hs : ∀ k, S k → B ≤ k) : Below B w w' :=
  ⟨h.os, h.tape, h.output, h.size, fun k hk => h.block k (by omega) fun hq => by have := hs k hq; omega⟩
theorem Kept.cell {S : Nat → Prop} {w w' : World} (h : Kept S w w') {a : Addr} {v : Value} (hc : w.cell? a = some v) (hs : ¬ S a.block) : w'.cell? a = some v := by
  have hb := World.block_lt_of_cell? _ _ hc
  rw [World.cell?_of_block (w := w) (h.block a.block hb hs)]
  exact hc
theorem Kept.alloc (S : Nat → Prop) (w : World) (o : Obj) : Kept S w (w.alloc o) := Kept.of_below (below_alloc w o) S
theorem Kept.drew (S : Nat → Prop) (w : World) : Kept S w w.drew := ⟨rfl, rfl, rfl, Nat.le_refl _, fun _ _ _ => rfl⟩
theorem Kept.setCell {S : Nat → Prop} (w : World) (a : Addr) (u : Value) (h : S a.block) : Kept S w (w.setCell a u) :=
  ⟨rfl, rfl, rfl, by simp [World.setCell], fun k _ hs => Below.heap_setCell _ _ _ _ (fun e => hs (by rw [e]; exact h))⟩
theorem Kept.setCells {S : Nat → Prop} (g : Nat) (h : S g) : ∀ (vs : List Value) (w : World) (o : Nat), Kept S w (w.setCells g o vs)
  | [], w, _ => Kept.refl S w
  | v :: r, w, o => (Kept.setCell w ⟨g, o, none⟩ v h).trans (Kept.setCells g h r _ _)
theorem cell_of_row {w : World} {g i : Nat} {cs : Array Value} {T : Nat} (h : w.heap[g]? = some (.cells cs T (0, 0))) : w.cell? ⟨g, i, none⟩ = cs[i]? := by simp [World.cell?, h]
theorem free_of_row {w : World} {g i : Nat} {cs : Array Value} {T : Nat} (h : w.heap[g]? = some (.cells cs T (0, 0))) : w.frozen? ⟨g, i, none⟩ = false := by simp [World.frozen?, h]
end Go.Proofs.YtcaihncnmjegoaaGreatDoor

/-! Letters in memory; the net in memory; the walks of slices.Clone at bytes, net.whole, gate. -/
namespace Go.Proofs.YtcaihncnmjegoaaGreatDoor
open Go.RowKit
set_option linter.unusedVariables false
set_option linter.unusedSimpArgs false
/-- a letter: from, to, the value of its bytes, its bytes -/
structure Lt where
  (f t : Int) (bv : Value) (bs : List UInt8)
def Lt.val (l : Lt) : Value := .agg #[.int .i64 l.f, .int .i64 l.t, l.bv]
def Lt.cells (l : Lt) : List Value := [.int .i64 l.f, .int .i64 l.t, l.bv]
/-- bytes lie in memory: in a block below B, or in one of bytes -/
def BytesAt (B : Nat) (w : World) (v : Value) (bs : List UInt8) : Prop :=
  ∃ a c, v = .slice a bs.length c ∧ (a = none → c = 0) ∧ ∀ i, i < bs.length → ∃ b o, a = some ⟨b, o, none⟩ ∧ w.cell? ⟨b, o + i, none⟩ = some (.int .u8 (bs.getD i 0).toNat) ∧ (b < B ∨ ∃ cs fr, w.heap[b]? = some (.cells cs 5 fr))
/-- what leaves blocks below B, and those of bytes, as they were -/
def Stp (B : Nat) (w w' : World) : Prop := ∀ k, k < w.heap.size → (k < B ∨ ∃ cs fr, w.heap[k]? = some (.cells cs 5 fr)) → w'.heap[k]? = w.heap[k]?
theorem Stp.of_below {B : Nat} {w w' : World} (h : Below w.heap.size w w') : Stp B w w' := fun k hk _ => h.block k hk
theorem BytesAt.step {B : Nat} {w w' : World} {v : Value} {bs : List UInt8} (h : BytesAt B w v bs) (hs : Stp B w w') : BytesAt B w' v bs := by
  obtain ⟨a, c, rfl, h0, h⟩ := h
  refine ⟨a, c, rfl, h0, fun i hi => ?_⟩
  obtain ⟨b, o, rfl, h1, h2⟩ := h i hi
  have hb := World.block_lt_of_cell? _ _ h1
  have he := hs b hb h2
  refine ⟨b, o, rfl, ?_, ?_⟩
  · rw [World.cell?_of_block (w := w) he]; exact h1
  · rw [he]; exact h2
theorem BytesAt.below {B : Nat} {w w' : World} {v : Value} {bs : List UInt8} (h : BytesAt B w v bs) (hb : Below w.heap.size w w') : BytesAt B w' v bs := h.step (.of_below hb)
theorem BytesAt.form {B : Nat} {w : World} {v : Value} {bs : List UInt8} (h : BytesAt B w v bs) : ∃ a c, v = .slice a bs.length c := by
  obtain ⟨a, c, rfl, _⟩ := h
  exact ⟨a, c, rfl⟩
def bytesV (l : List UInt8) : List Value := l.map fun c => .int .u8 c.toNat
theorem bytesV_len (l : List UInt8) : (bytesV l).length = l.length := by simp [bytesV]
theorem BytesAt.of_own {B : Nat} {w : World} {base : Nat} {v : Value} {bs : List UInt8} (h : w.ownsRow base 5 1 v bs.length (bytesV bs)) : BytesAt B w v bs := by
  have h0 := h
  obtain ⟨hl, ⟨rfl, h1⟩ | ⟨g, cap, cur, rfl, h2, h3, h4⟩⟩ := h
  · exact ⟨none, 0, by rw [h1], fun _ => rfl, fun i hi => by omega⟩
  · refine ⟨_, cap, rfl, (fun e => by cases e), fun i hi => ⟨g, 0, rfl, ?_, .inr ⟨cur, _, h3⟩⟩⟩
    have := h0.cellAt i (by omega)
    rw [Nat.zero_add, this, bytesV, List.getElem?_map, List.getElem?_eq_getElem hi, getD_at _ _ _ hi]
    rfl
theorem bytes_src {B : Nat} {w : World} {ad : Addr} {c : Nat} {bs : List UInt8} (h : BytesAt B w (.slice (some ad) bs.length c) bs) : ∀ (j : Nat) (u : Value), (bytesV bs)[j]? = some u → w.cell? (ad.add j) = some u := by
  intro j u hu
  obtain ⟨a', c', h1, _, h2⟩ := h
  injection h1 with h1 _ _
  subst h1
  unfold bytesV at hu
  rw [List.getElem?_map] at hu
  have hj : j < bs.length := by
    rcases Nat.lt_or_ge j bs.length with h | h
    · exact h
    · rw [List.getElem?_eq_none h] at hu; cases hu
  obtain ⟨b, o, h3, h4, _⟩ := h2 j hj
  injection h3 with h3
  subst h3
  rw [List.getElem?_eq_getElem hj] at hu
  injection hu with hu
  subst hu
  rw [getD_at _ _ _ hj] at h4
  have e1 : Addr.add ⟨b, o, none⟩ j = ⟨b, o + j, none⟩ := by unfold Addr.add; split <;> simp_all
  rw [e1]; exact h4
theorem bytes_one (bs : List UInt8) : ∀ u ∈ bytesV bs, u.oneCell' = true := by
  intro u hu
  obtain ⟨x, _, rfl⟩ := List.mem_map.1 hu
  rfl
theorem infoB : (Tryz.prog.info? 5).map (fun i => (i.zero, i.size, i.bytes)) = some (some (.int .u8 0), 1, 1) := by kernel_rfl
theorem own_emptyB (w : World) : (w.alloc (.cells #[] 5)).ownsRow w.heap.size 5 1 (.slice (some ⟨w.heap.size, 0, none⟩) 0 0) 0 [] :=
  ⟨rfl, .inr ⟨w.heap.size, 0, #[], rfl, Nat.le_refl _, heap_alloc_new _ _, Nat.le_refl _, Nat.zero_le _, rfl, rfl⟩⟩
/-- bytes in a block of their own, not below C, that may be written -/
def OwnB (C : Nat) (w : World) (v : Value) : Prop := ∀ k, v.ownBlock = some k → C ≤ k ∧ ∃ cs, w.heap[k]? = some (.cells cs 5 (0, 0))
theorem OwnB.step {B C : Nat} {w w' : World} {v : Value} (h : OwnB C w v) (hs : Stp B w w') : OwnB C w' v := fun k hk => by
  obtain ⟨h1, cs, h2⟩ := h k hk
  exact ⟨h1, cs, by rw [hs k (lt_of_block h2) (.inr ⟨cs, _, h2⟩)]; exact h2⟩
theorem OwnB.of_own {C : Nat} {w : World} {base : Nat} {v : Value} {n : Nat} {xs : List Value} (h : w.ownsRow base 5 1 v n xs) : OwnB base w v := by
  intro k hk
  obtain ⟨_, ⟨rfl, _⟩ | ⟨g, cap, cur, rfl, h2, h3, _⟩⟩ := h
  · cases hk
  · injection hk with hk
    subst hk
    exact ⟨h2, cur, h3⟩
end Go.Proofs.YtcaihncnmjegoaaGreatDoor

/-! A drawn region's operations that only read are taken first, by a plan that is checked once. No program. -/
namespace Go.Proofs.YtcaihncnmjegoaaGreatDoor
open Go.RowKit
set_option linter.unusedVariables false
section
variable {P : Program} {ops : Array Oper} {Q : Exit → Act → World → Prop} {md : Region.Mode} {S : World → Prop}
def planOk (md : Region.Mode) (ops : Array Oper) : List Nat → Array Bool → Bool
  | [], _ => true
  | i :: r, listed => Region.free md ops listed i && (Region.ready md ops listed).contains i && planOk md ops r (listed.setIfInBounds i true)
/-- the operations of the plan are taken, one behind another -/
def Plan (P : Program) (md : Region.Mode) (ops : Array Oper) (Q : Exit → Act → World → Prop) (S : World → Prop) (plan : List Nat) (fuel : Nat) (listed : Array Bool) (a : Act) (w : World) : Prop :=
  Region.noSelect ops = true → planOk md ops plan listed = true → S w → wpAnyH P md ops Q S (fuel + plan.length) listed a w
theorem Plan.start {plan : List Nat} {fuel n : Nat} {listed : Array Bool} {a : Act} {w : World} (hok : (Region.noSelect ops && planOk md ops plan listed && decide (n = fuel + plan.length)) = true) (hS : S w) (h : Plan P md ops Q S plan fuel listed a w) : wpAnyH P md ops Q S n listed a w := by
  rw [Bool.and_eq_true, Bool.and_eq_true, decide_eq_true_eq] at hok
  rw [hok.2]
  exact h hok.1.1 hok.1.2 hS
theorem Plan.stop {fuel : Nat} {listed : Array Bool} {a : Act} {w : World} (h : S w → wpAnyH P md ops Q S fuel listed a w) : Plan P md ops Q S [] fuel listed a w := fun _ _ hS => h hS
theorem Plan.yields {i : Nat} {oi : Oper} {v : Value} {plan : List Nat} {fuel : Nat} {listed : Array Bool} {a : Act} {w : World} (hi : ops[i]? = some oi) (hy : YieldsIf P ops S oi v a) (hQ : ∀ c a w, Q (.panic c) (a.put oi.dst v) w → Q (.panic c) a w)
    (h : Plan P md ops Q S plan fuel (listed.setIfInBounds i true) (a.put oi.dst v) w) : Plan P md ops Q S (i :: plan) fuel listed a w := by
  intro hs hp hS
  rw [planOk, Bool.and_eq_true, Bool.and_eq_true] at hp
  exact wpAnyH_take hi hs hp.1.1 hp.1.2 hQ hy hS (h hs hp.2 hS)
theorem wanted_none {o : Oper} {y : Nat → Option Bool} (h : o.guard = none) : Region.wanted o y = true := by unfold Region.wanted; rw [h]
theorem wanted_some {o oj : Oper} {tmps : Array Value} {j d : Nat} {want b : Bool} (h : o.guard = some (j, want)) (hj : ops[j]? = some oj) (hd : oj.dst = some d) (ht : tmps[d]? = some (.bool b)) : Region.wanted o (yielded ops tmps) = (b == want) := by
  unfold Region.wanted yielded
  rw [h]
  simp only [hj, Option.bind_some, hd, ht]
  cases b <;> cases want <;> rfl
/-- an operation that is not guarded -/
theorem Plan.free {i : Nat} {oi : Oper} {ds : Option Tmp} {v : Value} {plan : List Nat} {fuel : Nat} {listed : Array Bool} {a : Act} {w : World} (hi : ops[i]? = some oi) (hds : oi.dst = ds) (hg : oi.guard = none) (hy : ∀ w, S w → (execOp a.eval oi).run P w = .ok (.value v) w) (hQ : ∀ c a w, Q (.panic c) (a.put ds v) w → Q (.panic c) a w)
    (h : Plan P md ops Q S plan fuel (listed.setIfInBounds i true) (a.put ds v) w) : Plan P md ops Q S (i :: plan) fuel listed a w := by
  subst hds
  exact Plan.yields hi (.inl ⟨wanted_none hg, hy⟩) hQ h
/-- an operation whose guard lets it run -/
theorem Plan.on {i j d : Nat} {oi oj : Oper} {ds : Option Tmp} {v : Value} {b : Bool} {plan : List Nat} {fuel : Nat} {listed : Array Bool} {a : Act} {w : World} (hi : ops[i]? = some oi) (hds : oi.dst = ds) (hg : oi.guard = some (j, b)) (hj : ops[j]? = some oj) (hd : oj.dst = some d) (ht : a.tmps[d]? = some (.bool b)) (hy : ∀ w, S w → (execOp a.eval oi).run P w = .ok (.value v) w) (hQ : ∀ c a w, Q (.panic c) (a.put ds v) w → Q (.panic c) a w)
    (h : Plan P md ops Q S plan fuel (listed.setIfInBounds i true) (a.put ds v) w) : Plan P md ops Q S (i :: plan) fuel listed a w := by
  subst hds
  exact Plan.yields hi (.inl ⟨by rw [wanted_some hg hj hd ht]; simp, hy⟩) hQ h
/-- an operation whose guard does not -/
theorem Plan.off {i j d : Nat} {oi oj : Oper} {ds : Option Tmp} {want b : Bool} {plan : List Nat} {fuel : Nat} {listed : Array Bool} {a : Act} {w : World} (hi : ops[i]? = some oi) (hds : oi.dst = ds) (hg : oi.guard = some (j, want)) (hj : ops[j]? = some oj) (hd : oj.dst = some d) (ht : a.tmps[d]? = some (.bool b)) (hb : (b == want) = false) (hQ : ∀ c a w, Q (.panic c) (a.put ds undef) w → Q (.panic c) a w)
    (h : Plan P md ops Q S plan fuel (listed.setIfInBounds i true) (a.put ds undef) w) : Plan P md ops Q S (i :: plan) fuel listed a w := by
  subst hds
  exact Plan.yields hi (.inr ⟨by rw [wanted_some hg hj hd ht]; exact hb, rfl⟩) hQ h
end
end Go.Proofs.YtcaihncnmjegoaaGreatDoor

