/- A drawn region whose last operation stores into what the others read: the condition on the world is held up to that operation alone. No program. -/
import Derived.Test.YtecbnhmnhcpcmaaGreatDoorPkJournalPlays1
/-! A drawn region whose last operation stores into what the others read: the condition on the world is held up to that operation alone. No program. -/
namespace Go.Proofs.YtecbnhmnhcpcmaaGreatDoor
open Go.RowKit
set_option linter.unusedVariables false
section
variable {P : Program} {ops : Array Oper} {Q : Exit → Act → World → Prop} {md : Region.Mode} {z : Nat} {C : World → Prop}
/-- number z has not come up -/
def Ahead (z : Nat) (L : Array Bool) : Prop := L.getD z true = false
/-- behind each operation: C, if z has not come up; then the rest, in whatever order -/
def UpTo (P : Program) (md : Region.Mode) (ops : Array Oper) (Q : Exit → Act → World → Prop) (z : Nat) (C : World → Prop) : Nat → Array Bool → Act → World → Prop
  | 0 => fun L a w => Region.ready md ops L = [] ∧ Q .normal a w
  | n + 1 => fun L a w => (Region.ready md ops L = [] → Q .normal a w) ∧ ∀ i, i ∈ Region.ready md ops L → wpOp P ops Q i (fun b u => (Ahead z (L.setIfInBounds i true) → C u) ∧ UpTo P md ops Q z C n (L.setIfInBounds i true) b u) a w
theorem UpTo.any {n : Nat} : ∀ {L : Array Bool} {a : Act} {w : World}, UpTo P md ops Q z C n L a w → wpAny P md ops Q n L a w := by
  induction n with
  | zero => intro L a w h; exact h
  | succ n ih => intro L a w h; exact ⟨h.1, fun i hi => wpOp_mono (fun b u k => ih k.2) (h.2 i hi)⟩
theorem UpTo.start {id : Nat} {a : Act} {w : World} (hm : P.follows .mixedOrders = true) (hC : C w.drew) (h : C w.drew → UpTo P .any ops Q z C ops.size (Array.replicate ops.size false) a w.drew) : (Code.region id ops true).wp P Q a w :=
  wp_region_any hm (h hC).any
theorem UpTo.done {L : Array Bool} {a : Act} {w : World} (hr : Region.ready md ops L = []) (h : Q .normal a w) (n : Nat) : UpTo P md ops Q z C n L a w := by
  cases n with
  | zero => exact ⟨hr, h⟩
  | succ n => exact ⟨fun _ => h, fun i hi => by rw [hr] at hi; cases hi⟩
/-- an operation that waits for another that has not come up can't come up -/
theorem waits_out {i j : Nat} {o : Oper} {L : Array Bool} (ho : ops[j]? = some o) (hw : ∃ e ∈ o.after, Region.binds md e = true ∧ e.on = i) (hi : L.getD i true = false) : j ∉ Region.ready md ops L := by
  intro hj
  obtain ⟨-, o', ho', hall⟩ := mem_ready.1 hj
  rw [ho] at ho'
  injection ho' with ho'
  subst ho'
  obtain ⟨e, he, hb, rfl⟩ := hw
  have h1 := hall e he hb
  rcases Nat.lt_or_ge e.on L.size with hlt | hge
  · simp [hlt] at hi h1
    rw [hi] at h1
    cases h1
  · simp [Array.getElem?_eq_none hge] at h1
/-- what only reads, and yields in every world that meets C, is taken first -/
theorem UpTo.take {i : Nat} {oi oz : Oper} {v : Value} (hi : ops[i]? = some oi) (hz : ops[z]? = some oz) (hw : ∃ e ∈ oz.after, Region.binds md e = true ∧ e.on = i) (hs : Region.noSelect ops = true) (hQ : ∀ c a w, Q (.panic c) (a.put oi.dst v) w → Q (.panic c) a w) :
    ∀ (n : Nat) (L : Array Bool) (a : Act) (w : World), (∀ (j : Nat) (oj : Oper), ops[j]? = some oj → j ≠ i → L.getD j true = false → (∀ e ∈ oj.after, Region.binds md e = true → e.on ≠ i) → oi.apart ops oj = true) →
      i ∈ Region.ready md ops L → Ahead z L → YieldsIf P ops C oi v a → C w → UpTo P md ops Q z C n (L.setIfInBounds i true) (a.put oi.dst v) w → UpTo P md ops Q z C (n + 1) L a w := by
  intro n
  induction n with
  | zero =>
    intro L a w hfree hr hA hy hC H
    refine ⟨fun e => absurd (e ▸ hr) (by simp), fun j hj => ?_⟩
    rcases Nat.decEq j i with hne | rfl
    · have hj' := ready_mono hj hne
      rw [H.1] at hj'
      cases hj'
    · exact hy.wpOp hi hC ⟨fun _ => hC, H⟩
  | succ n ih =>
    intro L a w hfree hr hA hy hC H
    have hi0 := (mem_ready.1 hr).1
    have hzi : z ∉ Region.ready md ops L := waits_out hz hw hi0
    have hzne : z ≠ i := fun e => hzi (e ▸ hr)
    refine ⟨fun e => absurd (e ▸ hr) (by simp), fun j hj => ?_⟩
    rcases Nat.decEq j i with hne | rfl
    · obtain ⟨hj0, oj, hoj, -⟩ := mem_ready.1 hj
      have hzj : z ≠ j := fun e => hzi (e ▸ hj)
      have apart : oi.apart ops oj = true := hfree j oj hoj hne hj0 fun e he hb heq => waits_out hoj ⟨e, he, hb, heq⟩ hi0 hj
      have hA' : Ahead z ((L.setIfInBounds i true).setIfInBounds j true) := by
        unfold Ahead
        rw [getD_set_ne true (Ne.symm hzj), getD_set_ne true (Ne.symm hzne)]
        exact hA
      have hA2 : Ahead z (L.setIfInBounds j true) := by
        unfold Ahead
        rw [getD_set_ne true (Ne.symm hzj)]
        exact hA
      have step := wpOp_putIf hoj apart (fun cs b => Region.noSelect_spec hs i oi cs b hi) (fun cs b => Region.noSelect_spec hs j oj cs b hoj) hQ hy (H.2 j (ready_mono hj hne))
      refine wpOp_mono (fun b u k => ?_) step
      obtain ⟨ky, kc, kn⟩ := k
      have hc := kc hA'
      refine ⟨fun _ => hc, ih _ b u (fun m om hm hmi hm0 hmw => ?_) (ready_mono hr (Ne.symm hne)) hA2 ky hc ?_⟩
      · refine hfree m om hm hmi ?_ hmw
        rcases Nat.decEq j m with hjm | rfl
        · rw [getD_set_ne true hjm] at hm0; exact hm0
        · exact hj0
      · rw [Array.setIfInBounds_comm _ _ hne]
        exact kn
    · exact hy.wpOp hi hC ⟨fun _ => hC, H⟩
def waitsOk (md : Region.Mode) (ops : Array Oper) (z i : Nat) : Bool := match ops[z]? with
  | none => false
  | some o => o.after.any fun e => Region.binds md e && e.on == i
theorem waits_spec {i : Nat} (h : waitsOk md ops z i = true) : ∃ oz, ops[z]? = some oz ∧ ∃ e ∈ oz.after, Region.binds md e = true ∧ e.on = i := by
  unfold waitsOk at h
  cases hz : ops[z]? with
  | none => rw [hz] at h; cases h
  | some o =>
    rw [hz] at h
    obtain ⟨e, he, h2⟩ := Array.any_eq_true'.1 h
    rw [Bool.and_eq_true, beq_iff_eq] at h2
    exact ⟨o, rfl, e, he, h2.1, h2.2⟩
def planZ (md : Region.Mode) (ops : Array Oper) (z : Nat) : List Nat → Array Bool → Bool
  | [], _ => true
  | i :: r, L => Region.free md ops L i && (Region.ready md ops L).contains i && waitsOk md ops z i && (L.getD z true == false) && planZ md ops z r (L.setIfInBounds i true)
def PlanZ (P : Program) (md : Region.Mode) (ops : Array Oper) (Q : Exit → Act → World → Prop) (z : Nat) (C : World → Prop) (plan : List Nat) (fuel : Nat) (L : Array Bool) (a : Act) (w : World) : Prop :=
  Region.noSelect ops = true → planZ md ops z plan L = true → C w → UpTo P md ops Q z C (fuel + plan.length) L a w
theorem PlanZ.start {plan : List Nat} {fuel n : Nat} {L : Array Bool} {a : Act} {w : World} (hok : (Region.noSelect ops && planZ md ops z plan L && decide (n = fuel + plan.length)) = true) (hC : C w) (h : PlanZ P md ops Q z C plan fuel L a w) : UpTo P md ops Q z C n L a w := by
  rw [Bool.and_eq_true, Bool.and_eq_true, decide_eq_true_eq] at hok
  rw [hok.2]
  exact h hok.1.1 hok.1.2 hC
theorem PlanZ.stop {fuel : Nat} {L : Array Bool} {a : Act} {w : World} (h : C w → UpTo P md ops Q z C fuel L a w) : PlanZ P md ops Q z C [] fuel L a w := fun _ _ hC => h hC
theorem PlanZ.yields {i : Nat} {oi : Oper} {v : Value} {plan : List Nat} {fuel : Nat} {L : Array Bool} {a : Act} {w : World} (hi : ops[i]? = some oi) (hy : YieldsIf P ops C oi v a) (hQ : ∀ c a w, Q (.panic c) (a.put oi.dst v) w → Q (.panic c) a w)
    (h : PlanZ P md ops Q z C plan fuel (L.setIfInBounds i true) (a.put oi.dst v) w) : PlanZ P md ops Q z C (i :: plan) fuel L a w := by
  intro hs hp hC
  simp only [planZ, Bool.and_eq_true, beq_iff_eq] at hp
  obtain ⟨⟨⟨⟨h1, h2⟩, h3⟩, h4⟩, h5⟩ := hp
  obtain ⟨oz, hz, hw⟩ := waits_spec h3
  exact UpTo.take hi hz hw hs hQ _ L a w (Region.free_spec hi h1) (by simpa using h2) h4 hy hC (h hs h5 hC)
theorem PlanZ.free {i : Nat} {oi : Oper} {ds : Option Tmp} {v : Value} {plan : List Nat} {fuel : Nat} {L : Array Bool} {a : Act} {w : World} (hi : ops[i]? = some oi) (hds : oi.dst = ds) (hg : oi.guard = none) (hy : ∀ w, C w → (execOp a.eval oi).run P w = .ok (.value v) w) (hQ : ∀ c a w, Q (.panic c) (a.put ds v) w → Q (.panic c) a w)
    (h : PlanZ P md ops Q z C plan fuel (L.setIfInBounds i true) (a.put ds v) w) : PlanZ P md ops Q z C (i :: plan) fuel L a w := by
  subst hds
  exact PlanZ.yields hi (.inl ⟨wanted_none hg, hy⟩) hQ h
def AllZ (P : Program) (md : Region.Mode) (ops : Array Oper) (Q : Exit → Act → World → Prop) (z : Nat) (C : World → Prop) (n : Nat) (L : Array Bool) (a : Act) (w : World) (rs : List Nat) : Prop :=
  ∀ i, i ∈ rs → wpOp P ops Q i (fun b u => (Ahead z (L.setIfInBounds i true) → C u) ∧ UpTo P md ops Q z C n (L.setIfInBounds i true) b u) a w
theorem AllZ.nil {n : Nat} {L : Array Bool} {a : Act} {w : World} : AllZ P md ops Q z C n L a w [] := fun i hi => by cases hi
theorem AllZ.cons {n : Nat} {L : Array Bool} {a : Act} {w : World} {i : Nat} {o : Oper} {rs : List Nat} (ho : ops[i]? = some o)
    (h : ∀ K : Act → World → Prop, Shut (∀ b u, C u → (C u → UpTo P md ops Q z C n (L.setIfInBounds i true) b u) → K b u) → if Region.wanted o (yielded ops a.tmps) = true then Oper.wp P o a w K Q else K (a.put o.dst undef) w)
    (hs : AllZ P md ops Q z C n L a w rs) : AllZ P md ops Q z C n L a w (i :: rs) := by
  intro j hj
  rcases List.mem_cons.1 hj with rfl | hj
  · exact wpOp_step ho fun K hK => h K fun b u h1 h2 => hK b u ⟨fun _ => h1, h2 h1⟩
  · exact hs j hj
/-- the last one: nothing is asked behind it -/
theorem AllZ.last {n : Nat} {L : Array Bool} {a : Act} {w : World} {o : Oper} (ho : ops[z]? = some o)
    (h : ∀ K : Act → World → Prop, Shut (∀ b u, UpTo P md ops Q z C n (L.setIfInBounds z true) b u → K b u) → if Region.wanted o (yielded ops a.tmps) = true then Oper.wp P o a w K Q else K (a.put o.dst undef) w) : AllZ P md ops Q z C n L a w [z] := by
  intro j hj
  obtain rfl : j = z := by simpa using hj
  refine wpOp_step ho fun K hK => h K fun b u h2 => hK b u ⟨fun hA => ?_, h2⟩
  unfold Ahead at hA
  rcases Nat.lt_or_ge j L.size with hlt | hge
  · simp [hlt] at hA
  · have h0 : (L.setIfInBounds j true)[j]? = none := Array.getElem?_eq_none (by simpa using hge)
    simp [h0] at hA
theorem UpTo.ready {rs : List Nat} {n : Nat} {L : Array Bool} {a : Act} {w : World} (hr : Region.ready md ops L = rs) (hne : rs ≠ []) (h : AllZ P md ops Q z C n L a w rs) : UpTo P md ops Q z C (n + 1) L a w :=
  ⟨fun e => absurd (hr ▸ e) hne, fun i hi => h i (hr ▸ hi)⟩
end
end Go.Proofs.YtecbnhmnhcpcmaaGreatDoor
