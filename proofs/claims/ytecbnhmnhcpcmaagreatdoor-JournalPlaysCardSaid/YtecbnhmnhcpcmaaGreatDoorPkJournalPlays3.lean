/- A store in memory (kv.Mem): what it is in memory, what it holds; reading bytes as a string, a string as bytes; looking up. -/
import Derived.Test.YtecbnhmnhcpcmaaGreatDoorPkJournalPlays1
import Derived.Test.YtecbnhmnhcpcmaaGreatDoorPkJournalPlays2
import Derived.Maps.OwnSet
import Derived.Maps.OwnOps
import Derived.Maps.Views
import Derived.Lib.ConvBytes
import Derived.Lib.SmallJoins
/-! A store in memory (kv.Mem): what it is in memory, what it holds; reading bytes as a string, a string as bytes; looking up. -/
namespace Go.Proofs.YtecbnhmnhcpcmaaGreatDoor
open Go.RowKit Go.WideMaps Go.Maps
set_option linter.unusedVariables false
set_option linter.unusedSimpArgs false
set_option maxRecDepth 100000
abbrev Bs := List UInt8
/-! strings and bytes -/
theorem conv_bytes {B : Nat} {w : World} {v : Value} {bs : Bs} (h : BytesAt B w v bs) : (convert 61 9 v).run Tryz.prog w = .ok (.string ⟨bs.toArray⟩) w := by
  have h0 := h
  obtain ⟨a, c, rfl, hn, hx⟩ := h
  cases a with
  | none =>
    obtain rfl : bs = [] := by
      cases bs with
      | nil => rfl
      | cons x r => obtain ⟨b, o, h3, _⟩ := hx 0 (by simp); cases h3
    exact run_convert_bytes_nil w 61 5 Tryz.underlying61 Tryz.underlying5 _ _ 9 Tryz.underlying9
  | some ad =>
    exact run_convert_bytes_back w 61 9 5 ad c bs Tryz.underlying61 Tryz.underlying5 Tryz.underlying9 fun j hj => bytes_src h0 j _ (by simp [bytesV, hj])
/-- bytes in a block of their own -/
theorem bytes_block {B : Nat} {w : World} {g : Nat} {bs : Bs} {fr : Nat × Nat} (h : w.heap[g]? = some (.cells (bytesV bs).toArray 5 fr)) : BytesAt B w (.slice (some ⟨g, 0, none⟩) bs.length bs.length) bs :=
  ⟨_, _, rfl, fun e => (by cases e), fun i hi => ⟨g, 0, rfl, by simp [World.cell?, h, bytesV, hi, getD_at _ _ _ hi], .inr ⟨_, _, h⟩⟩⟩
theorem alloc_block (w : World) (C : Array Value) (T : Nat) (fr : Nat × Nat) : (w.alloc (.cells C T fr)).heap[w.heap.size]? = some (.cells C T fr) := by
  show (w.heap.push (.cells C T fr))[w.heap.size]? = _
  simp
/-- the bytes of a string -/
theorem string_bytes (w : World) (s : ByteArray) : (convert 9 61 (.string s)).run Tryz.prog w = .ok (.slice (some ⟨w.heap.size, 0, none⟩) s.size (grownCap w s.size 0 5)) (Lib.bytesWorld w 5 s) :=
  Lib.run_convert_string_bytes w _ _ 5 s Tryz.underlying9 Tryz.underlying61 Tryz.underlying5
theorem bytesWorld_at {B : Nat} (w : World) (s : ByteArray) (c : Nat) : BytesAt B (Lib.bytesWorld w 5 s) (.slice (some ⟨w.heap.size, 0, none⟩) s.size c) s.data.toList := by
  have e : s.data.toList.length = s.size := by rw [Array.length_toList]; rfl
  refine ⟨_, c, by rw [e], fun e => (by cases e), fun i hi => ⟨w.heap.size, 0, rfl, ?_, .inr ⟨_, _, Lib.bytesWorld_at_new w _ s⟩⟩⟩
  rw [Nat.zero_add]
  exact Lib.bytesWorld_cell w _ s i (by rw [← e]; exact hi)
theorem below_bytes (w : World) (s : ByteArray) : Below w.heap.size w (Lib.bytesWorld w 5 s) := Go.Joins.below_bytesWorld _ _ _ _ (Nat.le_refl _)
/-! what a map of strings holds -/
abbrev DM := DataW Unit
def strOf : DM → Bs
  | .lit (.string s) => s
  | _ => []
abbrev noStr : DM := .lit (.string [])
/-- what lies at a key, if anything -/
def gt (D : DM) (k : Bs) : Option Bs := if has D (.string k) = true then some (strOf (D.atKey (.string k) noStr)) else none
def pt (D : DM) (k v : Bs) : DM := D.put (.string k) (.lit (.string v))
def dl (D : DM) (k : Bs) : DM := D.del (.string k)
theorem keyStr : Keyed Tryz.prog 9 := string_keyed Tryz.underlying9
theorem key_str (s : Bs) (hs : s.length ≤ 1000000) : keyOf Tryz.prog 9 (.string ⟨s.toArray⟩) = some (.string s) := by
  have := keyOf_string_mk (P := Tryz.prog) (k := 9) Tryz.underlying9 (s := ⟨s.toArray⟩) (by unfold maxLen; simp [ByteArray.size]; omega)
  exact this
abbrev OwnM (w : World) (b n : Nat) (D : DM) : Prop := w.ownsMap Tryz.prog 9 (plainElem Tryz.prog 9) b n D
theorem gt_empty (k : Bs) : gt (.map []) k = none := rfl
theorem ne_key {k k' : Bs} (h : k' ≠ k) : Lit.string k' ≠ Lit.string k := fun e => h (by injection e)
theorem gt_pt {D : DM} (hD : IsMap D) (k v : Bs) : gt (pt D k v) k = some v := by
  unfold gt pt
  rw [if_pos (has_put_same hD (by trivial) _), atKey_put_same hD (by trivial)]
  rfl
theorem gt_pt_ne {D : DM} {k k' : Bs} (h : k' ≠ k) (v : Bs) : gt (pt D k v) k' = gt D k' := by
  unfold gt pt
  rw [has_put_other (ne_key h), atKey_put_other (ne_key h)]
theorem gt_dl {D : DM} (k : Bs) : gt (dl D k) k = none := by
  unfold gt dl
  rw [if_neg (by rw [has_del_same]; decide)]
theorem gt_dl_ne {D : DM} {k k' : Bs} (h : k' ≠ k) : gt (dl D k) k' = gt D k' := by
  unfold gt dl
  rw [has_del_other (ne_key h), atKey_del_other (ne_key h)]
theorem plainElem_string_inv {v : Value} {z : DM × List MemPlace} (h : plainElem Tryz.prog 9 v = some z) : ∃ s : ByteArray, v = .string s ∧ z = (.lit (.string s.data.toList), []) ∧ s.size ≤ maxLen := by
  unfold plainElem at h
  rw [Tryz.underlying9] at h
  cases v <;> simp at h
  obtain ⟨h1, h2⟩ := h
  exact ⟨_, rfl, h2.symm, h1⟩
theorem zeroStr (w : World) : (zeroValue 9).run Tryz.prog w = .ok (.string ⟨#[]⟩) w := by kernel_rfl
/-- what a look at the map finds -/
def at0 (D : DM) (k : Bs) : Bs := strOf (D.atKey (.string k) noStr)
theorem gt_some {D : DM} {k v : Bs} (h : gt D k = some v) : has D (.string k) = true ∧ at0 D k = v := by
  unfold gt at h
  split at h
  · exact ⟨by assumption, Option.some.inj h⟩
  · cases h
theorem gt_none {D : DM} {k : Bs} (h : gt D k = none) : has D (.string k) = false := by
  unfold gt at h
  split at h
  · cases h
  · rename_i hh; simpa using hh
theorem OwnM.look {w : World} {b n : Nat} {D : DM} (h : OwnM w b n D) (k : Bs) (hk : k.length ≤ 1000000) :
    (Instr.lookup 77 (.map (some b)) (.string ⟨k.toArray⟩) true).run Tryz.prog w = .ok (.tuple #[.string ⟨(at0 D k).toArray⟩, .bool (has D (.string k))]) w ∧ (at0 D k).length ≤ maxLen := by
  obtain ⟨v, ps, hrun, hR⟩ := h.look_ok keyStr Tryz.underlying77 (zeroStr w) (zd := noStr) (zp := []) (by have := plainElem_string (H := Unit) (P := Tryz.prog) Tryz.underlying9 (s := ⟨#[]⟩) (by unfold maxLen; decide); exact this) (key_str k hk)
  obtain ⟨s, rfl, hz, hs⟩ := plainElem_string_inv hR
  injection hz with hz _
  have e : at0 D k = s.data.toList := by unfold at0; rw [hz]; rfl
  rw [e]
  refine ⟨?_, by rw [Array.length_toList]; exact hs⟩
  rw [hrun]
/-- without 'ok' -/
theorem OwnM.look1 {w : World} {b n : Nat} {D : DM} (h : OwnM w b n D) (k : Bs) (hk : k.length ≤ 1000000) :
    (Instr.lookup 77 (.map (some b)) (.string ⟨k.toArray⟩) false).run Tryz.prog w = .ok (.string ⟨(at0 D k).toArray⟩) w := by
  obtain ⟨v, ps, hrun, hR⟩ := h.lookup keyStr Tryz.underlying77 (zeroStr w) (zd := noStr) (zp := []) (by have := plainElem_string (H := Unit) (P := Tryz.prog) Tryz.underlying9 (s := ⟨#[]⟩) (by unfold maxLen; decide); exact this) (key_str k hk)
  obtain ⟨s, rfl, hz, hs⟩ := plainElem_string_inv hR
  injection hz with hz _
  have e : at0 D k = s.data.toList := by unfold at0; rw [hz]; rfl
  rw [e]
  exact hrun
theorem OwnM.same {w w' : World} {b n : Nat} {D : DM} (h : OwnM w b n D) (hb : w'.heap[b]? = w.heap[b]?) : OwnM w' b n D := by
  obtain ⟨es, c, h1, h2⟩ := h
  exact ⟨es, c, hb.trans h1, h2⟩
theorem OwnM.isM {w : World} {b n : Nat} {D : DM} (h : OwnM w b n D) : ∃ es c, w.heap[b]? = some (.map es c) := by
  obtain ⟨es, c, h1, -⟩ := h
  exact ⟨es, c, h1⟩
/-! the store -/
structure MemS (w : World) (p b1 b2 : Nat) (room : Int) (n : Nat) (D D2 : DM) : Prop where
  box : w.heap[p]? = some (.cells #[.int .i64 room, .map (some b1), .map (some b2)] 79 (0, 0))
  now : OwnM w b1 n D
  was : OwnM w b2 n D2
  ne : b1 ≠ b2
theorem MemS.below {w w' : World} {p b1 b2 n : Nat} {room : Int} {D D2 : DM} (h : MemS w p b1 b2 room n D D2) (hb : Below w.heap.size w w') : MemS w' p b1 b2 room n D D2 :=
  ⟨stays_block hb h.box, h.now.same (hb.block _ h.now.lt), h.was.same (hb.block _ h.was.lt), h.ne⟩
theorem MemS.mono {w : World} {p b1 b2 n n' : Nat} {room : Int} {D D2 : DM} (h : MemS w p b1 b2 room n D D2) (hn : n ≤ n') : MemS w p b1 b2 room n' D D2 := ⟨h.box, h.now.mono hn, h.was.mono hn, h.ne⟩
theorem MemS.ne1 {w : World} {p b1 b2 n : Nat} {room : Int} {D D2 : DM} (h : MemS w p b1 b2 room n D D2) : p ≠ b1 := fun e => by
  obtain ⟨es, c, h1⟩ := h.now.isM
  have := h.box
  rw [e, h1] at this
  injection this with this
  cases this
theorem MemS.ne2 {w : World} {p b1 b2 n : Nat} {room : Int} {D D2 : DM} (h : MemS w p b1 b2 room n D D2) : p ≠ b2 := fun e => by
  obtain ⟨es, c, h1⟩ := h.was.isM
  have := h.box
  rw [e, h1] at this
  injection this with this
  cases this
/-- the map turns: all else stays -/
structure Turned (b : Nat) (w w' : World) : Prop where
  grown : w.grownBy w' (some b)
  isM : ∃ es c, w.heap[b]? = some (.map es c)
theorem Turned.refl {b : Nat} {w : World} (h : ∃ es c, w.heap[b]? = some (.map es c)) : Turned b w w := ⟨World.grownBy.refl _ _, h⟩
theorem Turned.cell {b : Nat} {w w' : World} (h : Turned b w w') {a : Addr} {v : Value} (hc : w.cell? a = some v) : w'.cell? a = some v := by
  refine h.grown.cell hc fun e => ?_
  injection e with e
  obtain ⟨es, c, hb⟩ := h.isM
  unfold World.cell? at hc
  rw [e, hb] at hc
  cases hc
theorem Turned.block {b : Nat} {w w' : World} (h : Turned b w w') {k : Nat} {cs : Array Value} {T : TypeId} {fr : Nat × Nat} (hc : w.heap[k]? = some (.cells cs T fr)) : w'.heap[k]? = some (.cells cs T fr) := by
  refine (h.grown.block k (lt_of_block hc) fun e => ?_).trans hc
  injection e with e
  obtain ⟨es, c, hb⟩ := h.isM
  rw [e, hb] at hc
  cases hc
theorem Turned.bytes {b : Nat} {B : Nat} {w w' : World} (h : Turned b w w') {v : Value} {bs : Bs} (hB : BytesAt B w v bs) : BytesAt B w' v bs := by
  obtain ⟨a, c, rfl, h0, hx⟩ := hB
  refine ⟨a, c, rfl, h0, fun i hi => ?_⟩
  obtain ⟨g, o, rfl, h1, h2⟩ := hx i hi
  refine ⟨g, o, rfl, h.cell h1, ?_⟩
  rcases h2 with h2 | ⟨cs, fr, h2⟩
  · exact .inl h2
  · exact .inr ⟨cs, fr, h.block h2⟩
theorem Turned.other {b b' n : Nat} {D : DM} {w w' : World} (h : Turned b w w') (hm : OwnM w b' n D) (hne : b' ≠ b) : OwnM w' b' n D := hm.same (h.grown.block _ hm.lt fun e => hne (by injection e))
theorem Turned.trans {b : Nat} {w w1 w2 : World} (h : Turned b w w1) (k : Turned b w1 w2) : Turned b w w2 := ⟨h.grown.trans k.grown, h.isM⟩
theorem Turned.of_below {b : Nat} {w w' : World} (h : Below w.heap.size w w') (hm : ∃ es c, w.heap[b]? = some (.map es c)) : Turned b w w' := ⟨⟨h.os, h.tape, h.output, h.size, fun k hk _ => h.block k hk⟩, hm⟩
theorem Turned.below {b B : Nat} {w w' : World} (h : Turned b w w') (hB : B ≤ w.heap.size) (hb : B ≤ b) : Below B w w' :=
  ⟨h.grown.os, h.grown.tape, h.grown.output, h.grown.size, fun k hk => h.grown.block k (by omega) fun e => by injection e with e; omega⟩
end Go.Proofs.YtecbnhmnhcpcmaaGreatDoor
