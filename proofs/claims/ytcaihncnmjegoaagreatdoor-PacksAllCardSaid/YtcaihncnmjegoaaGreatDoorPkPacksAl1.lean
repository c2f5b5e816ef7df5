/- A drawn region whose last operation stores into what the others read: the condition on the world is held up to that operation alone. No program. A store in memory (kv.Mem): what it is in memory, what it holds; reading bytes as a string, a string as bytes; looking up. -/
import Derived.Test.YtcaihncnmjegoaaGreatDoorPkPacksAl0
import Derived.Maps.OwnSet
import Derived.Maps.OwnOps
import Derived.Maps.Views
import Derived.Lib.ConvBytes
import Derived.Lib.SmallJoins
/-! A drawn region whose last operation stores into what the others read: the condition on the world is held up to that operation alone. No program. -/
namespace Go.Proofs.YtcaihncnmjegoaaGreatDoor
open Go.RowKit
set_option linter.unusedVariables false
section
variable {P : Program} {ops : Array Oper} {Q : Exit → Act → World → Prop} {md : Region.Mode} {z : Nat} {C : World → Prop}
/-- number z has not come up -/
def Ahead (z : Nat) (L : Array Bool) : Prop := L.getD z true = false
/-- behind each operation: C, if z has not come up; then the rest, in whatever order -/
def UpTo (P : Program) (md : Region.Mode) (ops : Array Oper) (Q : Exit → Act → World → Prop) (z : Nat) (C : World → Prop) : Nat → Array Bool → Act → World → Prop
  | 0 => fun L a w => Region.ready md ops L = [] ∧ Q .normal a w
  | n + 1 => fun L a w => (Region.ready md ops L = [] → Q .normal a w) ∧ ∀ i, i ∈ Region.ready md ops L → wpOp P ops Q i (fun b u => (Ahead z (L.setIfInBounds i true) → C u) ∧ UpTo P md ops Q z C n (L.setIfInBounds i true) b u) a w
theorem UpTo.any {n : Nat} : ∀ {L : Array Bool} {a : Act} {w : World}, UpTo P md ops Q z C n L a w → wpAny P md ops Q n L a w := by
  induction n with
  | zero => intro L a w h; exact h
  | succ n ih => intro L a w h; exact ⟨h.1, fun i hi => wpOp_mono (fun b u k => ih k.2) (h.2 i hi)⟩
theorem UpTo.start {id : Nat} {a : Act} {w : World} (hm : P.follows .mixedOrders = true) (hC : C w.drew) (h : C w.drew → UpTo P .any ops Q z C ops.size (Array.replicate ops.size false) a w.drew) : (Code.region id ops true).wp P Q a w :=
  wp_region_any hm (h hC).any
theorem UpTo.done {L : Array Bool} {a : Act} {w : World} (hr : Region.ready md ops L = []) (h : Q .normal a w) (n : Nat) : UpTo P md ops Q z C n L a w := by
  cases n with
  | zero => exact ⟨hr, h⟩
  | succ n => exact ⟨fun _ => h, fun i hi => by rw [hr] at hi; cases hi⟩
/-- an operation that waits for another that has not come up can't come up -/
theorem waits_out {i j : Nat} {o : Oper} {L : Array Bool} (ho : ops[j]? = some o) (hw : ∃ e ∈ o.after, Region.binds md e = true ∧ e.on = i) (hi : L.getD i true = false) : j ∉ Region.ready md ops L := by
  intro hj
  obtain ⟨-, o', ho', hall⟩ := mem_ready.1 hj
  rw [ho] at ho'
  injection ho' with ho'
  subst ho'
  obtain ⟨e, he, hb, rfl⟩ := hw
  have h1 := hall e he hb
  rcases Nat.lt_or_ge e.on L.size with hlt | hge
  · simp [hlt] at hi h1
    rw [hi] at h1
    cases h1
  · simp [Array.getElem?_eq_none hge] at h1
/-- what only reads, and yields in every world that meets C, is taken first -/
theorem UpTo.take {i : Nat} {oi oz : Oper} {v : Value} (hi : ops[i]? = some oi) (hz : ops[z]? = some oz) (hw : ∃ e ∈ oz.after, Region.binds md e = true ∧ e.on = i) (hs : Region.noSelect ops = true) (hQ : ∀ c a w, Q (.panic c) (a.put oi.dst v) w → Q (.panic c) a w) :
    ∀ (n : Nat) (L : Array Bool) (a : Act) (w : World), (∀ (j : Nat) (oj : Oper), ops[j]? = some oj → j ≠ i → L.getD j true = false → (∀ e ∈ oj.after, Region.binds md e = true → e.on ≠ i) → oi.apart ops oj = true) →
      i ∈ Region.ready md ops L → Ahead z L → YieldsIf P ops C oi v a → C w → UpTo P md ops Q z C n (L.setIfInBounds i true) (a.put oi.dst v) w → UpTo P md ops Q z C (n + 1) L a w := by
  intro n
  induction n with
  | zero =>
    intro L a w hfree hr hA hy hC H
    refine ⟨fun e => absurd (e ▸ hr) (by simp), fun j hj => ?_⟩
    rcases Nat.decEq j i with hne | rfl
    · have hj' := ready_mono hj hne
      rw [H.1] at hj'
      cases hj'
    · exact hy.wpOp hi hC ⟨fun _ => hC, H⟩
  | succ n ih =>
    intro L a w hfree hr hA hy hC H
    have hi0 := (mem_ready.1 hr).1
    have hzi : z ∉ Region.ready md ops L := waits_out hz hw hi0
    have hzne : z ≠ i := fun e => hzi (e ▸ hr)
    refine ⟨fun e => absurd (e ▸ hr) (by simp), fun j hj => ?_⟩
    rcases Nat.decEq j i with hne | rfl
    · obtain ⟨hj0, oj, hoj, -⟩ := mem_ready.1 hj
      have hzj : z ≠ j := fun e => hzi (e ▸ hj)
      have apart : oi.apart ops oj = true := hfree j oj hoj hne hj0 fun e he hb heq => waits_out hoj ⟨e, he, hb, heq⟩ hi0 hj
      have hA' : Ahead z ((L.setIfInBounds i true).setIfInBounds j true) := by
        unfold Ahead
        rw [getD_set_ne true (Ne.symm hzj), getD_set_ne true (Ne.symm hzne)]
        exact hA
      have hA2 : Ahead z (L.setIfInBounds j true) := by
        unfold Ahead
        rw [getD_set_ne true (Ne.symm hzj)]
        exact hA
      have step := wpOp_putIf hoj apart (fun cs b => Region.noSelect_spec hs i oi cs b hi) (fun cs b => Region.noSelect_spec hs j oj cs b hoj) hQ hy (H.2 j (ready_mono hj hne))
      refine wpOp_mono (fun b u k => ?_) step
      obtain ⟨ky, kc, kn⟩ := k
      have hc := kc hA'
      refine ⟨fun _ => hc, ih _ b u (fun m om hm hmi hm0 hmw => ?_) (ready_mono hr (Ne.symm hne)) hA2 ky hc ?_⟩
      · refine hfree m om hm hmi ?_ hmw
        rcases Nat.decEq j m with hjm | rfl
        · rw [getD_set_ne true hjm] at hm0; exact hm0
        · exact hj0
      · rw [Array.setIfInBounds_comm _ _ hne]
        exact kn
    · exact hy.wpOp hi hC ⟨fun _ => hC, H⟩
def waitsOk (md : Region.Mode) (ops : Array Oper) (z i : Nat) : Bool := match ops[z]? with
  | none => false
  | some o => o.after.any fun e => Region.binds md e && e.on == i
theorem waits_spec {i : Nat} (h : waitsOk md ops z i = true) : ∃ oz, ops[z]? = some oz ∧ ∃ e ∈ oz.after, Region.binds md e = true ∧ e.on = i := by
  unfold waitsOk at h
  cases hz : ops[z]? with
  | none => rw [hz] at h; cases h
  | some o =>
    rw [hz] at h
    obtain ⟨e, he, h2⟩ := Array.any_eq_true'.1 h
    rw [Bool.and_eq_true, beq_iff_eq] at h2
    exact ⟨o, rfl, e, he, h2.1, h2.2⟩
def planZ (md : Region.Mode) (ops : Array Oper) (z : Nat) : List Nat → Array Bool → Bool
  | [], _ => true
  | i :: r, L => Region.free md ops L i && (Region.ready md ops L).contains i && waitsOk md ops z i && (L.getD z true == false) && planZ md ops z r (L.setIfInBounds i true)
def PlanZ (P : Program) (md : Region.Mode) (ops : Array Oper) (Q : Exit → Act → World → Prop) (z : Nat) (C : World → Prop) (plan : List Nat) (fuel : Nat) (L : Array Bool) (a : Act) (w : World) : Prop :=
  Region.noSelect ops = true → planZ md ops z plan L = true → C w → UpTo P md ops Q z C (fuel + plan.length) L a w
theorem PlanZ.start {plan : List Nat} {fuel n : Nat} {L : Array Bool} {a : Act} {w : World} (hok : (Region.noSelect ops && planZ md ops z plan L && decide (n = fuel + plan.length)) = true) (hC : C w) (h : PlanZ P md ops Q z C plan fuel L a w) : UpTo P md ops Q z C n L a w := by
  rw [Bool.and_eq_true, Bool.and_eq_true, decide_eq_true_eq] at hok
  rw [hok.2]
  exact h hok.1.1 hok.1.2 hC
theorem PlanZ.stop {fuel : Nat} {L : Array Bool} {a : Act} {w : World} (h : C w → UpTo P md ops Q z C fuel L a w) : PlanZ P md ops Q z C [] fuel L a w := fun _ _ hC => h hC
theorem PlanZ.yields {i : Nat} {oi : Oper} {v : Value} {plan : List Nat} {fuel : Nat} {L : Array Bool} {a : Act} {w : World} (hi : ops[i]? = some oi) (hy : YieldsIf P ops C oi v a) (hQ : ∀ c a w, Q (.panic c) (a.put oi.dst v) w → Q (.panic c) a w)
    (h : PlanZ P md ops Q z C plan fuel (L.setIfInBounds i true) (a.put oi.dst v) w) : PlanZ P md ops Q z C (i :: plan) fuel L a w := by
  intro hs hp hC
  simp only [planZ, Bool.and_eq_true, beq_iff_eq] at hp
  obtain ⟨⟨⟨⟨h1, h2⟩, h3⟩, h4⟩, h5⟩ := hp
  obtain ⟨oz, hz, hw⟩ := waits_spec h3
  exact UpTo.take hi hz hw hs hQ _ L a w (Region.free_spec hi h1) (by simpa using h2) h4 hy hC (h hs h5 hC)
theorem PlanZ.free {i : Nat} {oi : Oper} {ds : Option Tmp} {v : Value} {plan : List Nat} {fuel : Nat} {L : Array Bool} {a : Act} {w : World} (hi : ops[i]? = some oi) (hds : oi.dst = ds) (hg : oi.guard = none) (hy : ∀ w, C w → (execOp a.eval oi).run P w = .ok (.value v) w) (hQ : ∀ c a w, Q (.panic c) (a.put ds v) w → Q (.panic c) a w)
    (h : PlanZ P md ops Q z C plan fuel (L.setIfInBounds i true) (a.put ds v) w) : PlanZ P md ops Q z C (i :: plan) fuel L a w := by
  subst hds
  exact PlanZ.yields hi (.inl ⟨wanted_none hg, hy⟩) hQ h
def AllZ (P : Program) (md : Region.Mode) (ops : Array Oper) (Q : Exit → Act → World → Prop) (z : Nat) (C : World → Prop) (n : Nat) (L : Array Bool) (a : Act) (w : World) (rs : List Nat) : Prop :=
  ∀ i, i ∈ rs → wpOp P ops Q i (fun b u => (Ahead z (L.setIfInBounds i true) → C u) ∧ UpTo P md ops Q z C n (L.setIfInBounds i true) b u) a w
theorem AllZ.nil {n : Nat} {L : Array Bool} {a : Act} {w : World} : AllZ P md ops Q z C n L a w [] := fun i hi => by cases hi
theorem AllZ.cons {n : Nat} {L : Array Bool} {a : Act} {w : World} {i : Nat} {o : Oper} {rs : List Nat} (ho : ops[i]? = some o)
    (h : ∀ K : Act → World → Prop, Shut (∀ b u, C u → (C u → UpTo P md ops Q z C n (L.setIfInBounds i true) b u) → K b u) → if Region.wanted o (yielded ops a.tmps) = true then Oper.wp P o a w K Q else K (a.put o.dst undef) w)
    (hs : AllZ P md ops Q z C n L a w rs) : AllZ P md ops Q z C n L a w (i :: rs) := by
  intro j hj
  rcases List.mem_cons.1 hj with rfl | hj
  · exact wpOp_step ho fun K hK => h K fun b u h1 h2 => hK b u ⟨fun _ => h1, h2 h1⟩
  · exact hs j hj
/-- the last one: nothing is asked behind it -/
theorem AllZ.last {n : Nat} {L : Array Bool} {a : Act} {w : World} {o : Oper} (ho : ops[z]? = some o)
    (h : ∀ K : Act → World → Prop, Shut (∀ b u, UpTo P md ops Q z C n (L.setIfInBounds z true) b u → K b u) → if Region.wanted o (yielded ops a.tmps) = true then Oper.wp P o a w K Q else K (a.put o.dst undef) w) : AllZ P md ops Q z C n L a w [z] := by
  intro j hj
  obtain rfl : j = z := by simpa using hj
  refine wpOp_step ho fun K hK => h K fun b u h2 => hK b u ⟨fun hA => ?_, h2⟩
  unfold Ahead at hA
  rcases Nat.lt_or_ge j L.size with hlt | hge
  · simp [hlt] at hA
  · have h0 : (L.setIfInBounds j true)[j]? = none := Array.getElem?_eq_none (by simpa using hge)
    simp [h0] at hA
theorem UpTo.ready {rs : List Nat} {n : Nat} {L : Array Bool} {a : Act} {w : World} (hr : Region.ready md ops L = rs) (hne : rs ≠ []) (h : AllZ P md ops Q z C n L a w rs) : UpTo P md ops Q z C (n + 1) L a w :=
  ⟨fun e => absurd (hr ▸ e) hne, fun i hi => h i (hr ▸ hi)⟩
end
end Go.Proofs.YtcaihncnmjegoaaGreatDoor

/-! A store in memory (kv.Mem): what it is in memory, what it holds; reading bytes as a string, a string as bytes; looking up. -/
namespace Go.Proofs.YtcaihncnmjegoaaGreatDoor
open Go.RowKit Go.WideMaps Go.Maps
set_option linter.unusedVariables false
set_option linter.unusedSimpArgs false
set_option maxRecDepth 100000
abbrev Bs := List UInt8
theorem conv_bytes {B : Nat} {w : World} {v : Value} {bs : Bs} (h : BytesAt B w v bs) : (convert 62 9 v).run Tryz.prog w = .ok (.string ⟨bs.toArray⟩) w := by
  have h0 := h
  obtain ⟨a, c, rfl, hn, hx⟩ := h
  cases a with
  | none =>
    obtain rfl : bs = [] := by
      cases bs with
      | nil => rfl
      | cons x r => obtain ⟨b, o, h3, _⟩ := hx 0 (by simp); cases h3
    exact run_convert_bytes_nil w 62 5 Tryz.underlying62 Tryz.underlying5 _ _ 9 Tryz.underlying9
  | some ad =>
    exact run_convert_bytes_back w 62 9 5 ad c bs Tryz.underlying62 Tryz.underlying5 Tryz.underlying9 fun j hj => bytes_src h0 j _ (by simp [bytesV, hj])
/-- bytes in a block of their own -/
theorem bytes_block {B : Nat} {w : World} {g : Nat} {bs : Bs} {fr : Nat × Nat} (h : w.heap[g]? = some (.cells (bytesV bs).toArray 5 fr)) : BytesAt B w (.slice (some ⟨g, 0, none⟩) bs.length bs.length) bs :=
  ⟨_, _, rfl, fun e => (by cases e), fun i hi => ⟨g, 0, rfl, by simp [World.cell?, h, bytesV, hi, getD_at _ _ _ hi], .inr ⟨_, _, h⟩⟩⟩
theorem alloc_block (w : World) (C : Array Value) (T : Nat) (fr : Nat × Nat) : (w.alloc (.cells C T fr)).heap[w.heap.size]? = some (.cells C T fr) := by
  show (w.heap.push (.cells C T fr))[w.heap.size]? = _
  simp
/-- the bytes of a string -/
theorem string_bytes (w : World) (s : ByteArray) : (convert 9 62 (.string s)).run Tryz.prog w = .ok (.slice (some ⟨w.heap.size, 0, none⟩) s.size (grownCap w s.size 0 5)) (Lib.bytesWorld w 5 s) :=
  Lib.run_convert_string_bytes w _ _ 5 s Tryz.underlying9 Tryz.underlying62 Tryz.underlying5
theorem bytesWorld_at {B : Nat} (w : World) (s : ByteArray) (c : Nat) : BytesAt B (Lib.bytesWorld w 5 s) (.slice (some ⟨w.heap.size, 0, none⟩) s.size c) s.data.toList := by
  have e : s.data.toList.length = s.size := by rw [Array.length_toList]; rfl
  refine ⟨_, c, by rw [e], fun e => (by cases e), fun i hi => ⟨w.heap.size, 0, rfl, ?_, .inr ⟨_, _, Lib.bytesWorld_at_new w _ s⟩⟩⟩
  rw [Nat.zero_add]
  exact Lib.bytesWorld_cell w _ s i (by rw [← e]; exact hi)
theorem below_bytes (w : World) (s : ByteArray) : Below w.heap.size w (Lib.bytesWorld w 5 s) := Go.Joins.below_bytesWorld _ _ _ _ (Nat.le_refl _)
abbrev DM := DataW Unit
def strOf : DM → Bs
  | .lit (.string s) => s
  | _ => []
abbrev noStr : DM := .lit (.string [])
/-- what lies at a key, if anything -/
def gt (D : DM) (k : Bs) : Option Bs := if has D (.string k) = true then some (strOf (D.atKey (.string k) noStr)) else none
def pt (D : DM) (k v : Bs) : DM := D.put (.string k) (.lit (.string v))
def dl (D : DM) (k : Bs) : DM := D.del (.string k)
theorem keyStr : Keyed Tryz.prog 9 := string_keyed Tryz.underlying9
theorem key_str (s : Bs) (hs : s.length ≤ 1000000) : keyOf Tryz.prog 9 (.string ⟨s.toArray⟩) = some (.string s) := by
  have := keyOf_string_mk (P := Tryz.prog) (k := 9) Tryz.underlying9 (s := ⟨s.toArray⟩) (by unfold maxLen; simp [ByteArray.size]; omega)
  exact this
abbrev OwnM (w : World) (b n : Nat) (D : DM) : Prop := w.ownsMap Tryz.prog 9 (plainElem Tryz.prog 9) b n D
theorem ne_key {k k' : Bs} (h : k' ≠ k) : Lit.string k' ≠ Lit.string k := fun e => h (by injection e)
theorem gt_pt {D : DM} (hD : IsMap D) (k v : Bs) : gt (pt D k v) k = some v := by
  unfold gt pt
  rw [if_pos (has_put_same hD (by trivial) _), atKey_put_same hD (by trivial)]
  rfl
theorem gt_pt_ne {D : DM} {k k' : Bs} (h : k' ≠ k) (v : Bs) : gt (pt D k v) k' = gt D k' := by
  unfold gt pt
  rw [has_put_other (ne_key h), atKey_put_other (ne_key h)]
theorem plainElem_string_inv {v : Value} {z : DM × List MemPlace} (h : plainElem Tryz.prog 9 v = some z) : ∃ s : ByteArray, v = .string s ∧ z = (.lit (.string s.data.toList), []) ∧ s.size ≤ maxLen := by
  unfold plainElem at h
  rw [Tryz.underlying9] at h
  cases v <;> simp at h
  obtain ⟨h1, h2⟩ := h
  exact ⟨_, rfl, h2.symm, h1⟩
theorem zeroStr (w : World) : (zeroValue 9).run Tryz.prog w = .ok (.string ⟨#[]⟩) w := by kernel_rfl
/-- what a look at the map finds -/
def at0 (D : DM) (k : Bs) : Bs := strOf (D.atKey (.string k) noStr)
theorem gt_some {D : DM} {k v : Bs} (h : gt D k = some v) : has D (.string k) = true ∧ at0 D k = v := by
  unfold gt at h
  split at h
  · exact ⟨by assumption, Option.some.inj h⟩
  · cases h
theorem gt_none {D : DM} {k : Bs} (h : gt D k = none) : has D (.string k) = false := by
  unfold gt at h
  split at h
  · cases h
  · rename_i hh; simpa using hh
theorem OwnM.look {w : World} {b n : Nat} {D : DM} (h : OwnM w b n D) (k : Bs) (hk : k.length ≤ 1000000) :
    (Instr.lookup 55 (.map (some b)) (.string ⟨k.toArray⟩) true).run Tryz.prog w = .ok (.tuple #[.string ⟨(at0 D k).toArray⟩, .bool (has D (.string k))]) w ∧ (at0 D k).length ≤ maxLen := by
  obtain ⟨v, ps, hrun, hR⟩ := h.look_ok keyStr Tryz.underlying55 (zeroStr w) (zd := noStr) (zp := []) (by have := plainElem_string (H := Unit) (P := Tryz.prog) Tryz.underlying9 (s := ⟨#[]⟩) (by unfold maxLen; decide); exact this) (key_str k hk)
  obtain ⟨s, rfl, hz, hs⟩ := plainElem_string_inv hR
  injection hz with hz _
  have e : at0 D k = s.data.toList := by unfold at0; rw [hz]; rfl
  rw [e]
  refine ⟨?_, by rw [Array.length_toList]; exact hs⟩
  rw [hrun]
theorem OwnM.same {w w' : World} {b n : Nat} {D : DM} (h : OwnM w b n D) (hb : w'.heap[b]? = w.heap[b]?) : OwnM w' b n D := by
  obtain ⟨es, c, h1, h2⟩ := h
  exact ⟨es, c, hb.trans h1, h2⟩
theorem OwnM.isM {w : World} {b n : Nat} {D : DM} (h : OwnM w b n D) : ∃ es c, w.heap[b]? = some (.map es c) := by
  obtain ⟨es, c, h1, -⟩ := h
  exact ⟨es, c, h1⟩
structure MemS (w : World) (p b1 b2 : Nat) (room : Int) (n : Nat) (D D2 : DM) : Prop where
  box : w.heap[p]? = some (.cells #[.int .i64 room, .map (some b1), .map (some b2)] 57 (0, 0))
  now : OwnM w b1 n D
  was : OwnM w b2 n D2
  ne : b1 ≠ b2
theorem MemS.below {w w' : World} {p b1 b2 n : Nat} {room : Int} {D D2 : DM} (h : MemS w p b1 b2 room n D D2) (hb : Below w.heap.size w w') : MemS w' p b1 b2 room n D D2 :=
  ⟨stays_block hb h.box, h.now.same (hb.block _ h.now.lt), h.was.same (hb.block _ h.was.lt), h.ne⟩
theorem MemS.mono {w : World} {p b1 b2 n n' : Nat} {room : Int} {D D2 : DM} (h : MemS w p b1 b2 room n D D2) (hn : n ≤ n') : MemS w p b1 b2 room n' D D2 := ⟨h.box, h.now.mono hn, h.was.mono hn, h.ne⟩
/-- the map turns: all else stays -/
structure Turned (b : Nat) (w w' : World) : Prop where
  grown : w.grownBy w' (some b)
  isM : ∃ es c, w.heap[b]? = some (.map es c)
theorem Turned.refl {b : Nat} {w : World} (h : ∃ es c, w.heap[b]? = some (.map es c)) : Turned b w w := ⟨World.grownBy.refl _ _, h⟩
theorem Turned.cell {b : Nat} {w w' : World} (h : Turned b w w') {a : Addr} {v : Value} (hc : w.cell? a = some v) : w'.cell? a = some v := by
  refine h.grown.cell hc fun e => ?_
  injection e with e
  obtain ⟨es, c, hb⟩ := h.isM
  unfold World.cell? at hc
  rw [e, hb] at hc
  cases hc
theorem Turned.block {b : Nat} {w w' : World} (h : Turned b w w') {k : Nat} {cs : Array Value} {T : TypeId} {fr : Nat × Nat} (hc : w.heap[k]? = some (.cells cs T fr)) : w'.heap[k]? = some (.cells cs T fr) := by
  refine (h.grown.block k (lt_of_block hc) fun e => ?_).trans hc
  injection e with e
  obtain ⟨es, c, hb⟩ := h.isM
  rw [e, hb] at hc
  cases hc
theorem Turned.bytes {b : Nat} {B : Nat} {w w' : World} (h : Turned b w w') {v : Value} {bs : Bs} (hB : BytesAt B w v bs) : BytesAt B w' v bs := by
  obtain ⟨a, c, rfl, h0, hx⟩ := hB
  refine ⟨a, c, rfl, h0, fun i hi => ?_⟩
  obtain ⟨g, o, rfl, h1, h2⟩ := hx i hi
  refine ⟨g, o, rfl, h.cell h1, ?_⟩
  rcases h2 with h2 | ⟨cs, fr, h2⟩
  · exact .inl h2
  · exact .inr ⟨cs, fr, h.block h2⟩
theorem Turned.other {b b' n : Nat} {D : DM} {w w' : World} (h : Turned b w w') (hm : OwnM w b' n D) (hne : b' ≠ b) : OwnM w' b' n D := hm.same (h.grown.block _ hm.lt fun e => hne (by injection e))
theorem Turned.trans {b : Nat} {w w1 w2 : World} (h : Turned b w w1) (k : Turned b w1 w2) : Turned b w w2 := ⟨h.grown.trans k.grown, h.isM⟩
theorem Turned.of_below {b : Nat} {w w' : World} (h : Below w.heap.size w w') (hm : ∃ es c, w.heap[b]? = some (.map es c)) : Turned b w w' := ⟨⟨h.os, h.tape, h.output, h.size, fun k hk _ => h.block k hk⟩, hm⟩
theorem Turned.below {b B : Nat} {w w' : World} (h : Turned b w w') (hB : B ≤ w.heap.size) (hb : B ≤ b) : Below B w w' :=
  ⟨h.grown.os, h.grown.tape, h.grown.output, h.grown.size, fun k hk => h.grown.block k (by omega) fun e => by injection e with e; omega⟩
end Go.Proofs.YtcaihncnmjegoaaGreatDoor

