/- A drawn region's operations that only read are taken first, by a plan that is checked once. No program. -/
import Derived.Test.YtecbnhmnhcpcmaaGreatDoorBas
import Derived.Deep.RegionHeld3
import Derived.Deep.DrawnRows
namespace Go.Proofs.YtecbnhmnhcpcmaaGreatDoor
open Go.RowKit
set_option linter.unusedVariables false
section
variable {P : Program} {ops : Array Oper} {Q : Exit → Act → World → Prop} {md : Region.Mode} {S : World → Prop}
def planOk (md : Region.Mode) (ops : Array Oper) : List Nat → Array Bool → Bool
  | [], _ => true
  | i :: r, listed => Region.free md ops listed i && (Region.ready md ops listed).contains i && planOk md ops r (listed.setIfInBounds i true)
/-- the operations of the plan are taken, one behind another -/
def Plan (P : Program) (md : Region.Mode) (ops : Array Oper) (Q : Exit → Act → World → Prop) (S : World → Prop) (plan : List Nat) (fuel : Nat) (listed : Array Bool) (a : Act) (w : World) : Prop :=
  Region.noSelect ops = true → planOk md ops plan listed = true → S w → wpAnyH P md ops Q S (fuel + plan.length) listed a w
theorem Plan.start {plan : List Nat} {fuel n : Nat} {listed : Array Bool} {a : Act} {w : World} (hok : (Region.noSelect ops && planOk md ops plan listed && decide (n = fuel + plan.length)) = true) (hS : S w) (h : Plan P md ops Q S plan fuel listed a w) : wpAnyH P md ops Q S n listed a w := by
  rw [Bool.and_eq_true, Bool.and_eq_true, decide_eq_true_eq] at hok
  rw [hok.2]
  exact h hok.1.1 hok.1.2 hS
theorem Plan.stop {fuel : Nat} {listed : Array Bool} {a : Act} {w : World} (h : S w → wpAnyH P md ops Q S fuel listed a w) : Plan P md ops Q S [] fuel listed a w := fun _ _ hS => h hS
theorem Plan.yields {i : Nat} {oi : Oper} {v : Value} {plan : List Nat} {fuel : Nat} {listed : Array Bool} {a : Act} {w : World} (hi : ops[i]? = some oi) (hy : YieldsIf P ops S oi v a) (hQ : ∀ c a w, Q (.panic c) (a.put oi.dst v) w → Q (.panic c) a w)
    (h : Plan P md ops Q S plan fuel (listed.setIfInBounds i true) (a.put oi.dst v) w) : Plan P md ops Q S (i :: plan) fuel listed a w := by
  intro hs hp hS
  rw [planOk, Bool.and_eq_true, Bool.and_eq_true] at hp
  exact wpAnyH_take hi hs hp.1.1 hp.1.2 hQ hy hS (h hs hp.2 hS)
theorem wanted_none {o : Oper} {y : Nat → Option Bool} (h : o.guard = none) : Region.wanted o y = true := by unfold Region.wanted; rw [h]
theorem wanted_some {o oj : Oper} {tmps : Array Value} {j d : Nat} {want b : Bool} (h : o.guard = some (j, want)) (hj : ops[j]? = some oj) (hd : oj.dst = some d) (ht : tmps[d]? = some (.bool b)) : Region.wanted o (yielded ops tmps) = (b == want) := by
  unfold Region.wanted yielded
  rw [h]
  simp only [hj, Option.bind_some, hd, ht]
  cases b <;> cases want <;> rfl
/-- an operation that is not guarded -/
theorem Plan.free {i : Nat} {oi : Oper} {ds : Option Tmp} {v : Value} {plan : List Nat} {fuel : Nat} {listed : Array Bool} {a : Act} {w : World} (hi : ops[i]? = some oi) (hds : oi.dst = ds) (hg : oi.guard = none) (hy : ∀ w, S w → (execOp a.eval oi).run P w = .ok (.value v) w) (hQ : ∀ c a w, Q (.panic c) (a.put ds v) w → Q (.panic c) a w)
    (h : Plan P md ops Q S plan fuel (listed.setIfInBounds i true) (a.put ds v) w) : Plan P md ops Q S (i :: plan) fuel listed a w := by
  subst hds
  exact Plan.yields hi (.inl ⟨wanted_none hg, hy⟩) hQ h
/-- an operation whose guard lets it run -/
theorem Plan.on {i j d : Nat} {oi oj : Oper} {ds : Option Tmp} {v : Value} {b : Bool} {plan : List Nat} {fuel : Nat} {listed : Array Bool} {a : Act} {w : World} (hi : ops[i]? = some oi) (hds : oi.dst = ds) (hg : oi.guard = some (j, b)) (hj : ops[j]? = some oj) (hd : oj.dst = some d) (ht : a.tmps[d]? = some (.bool b)) (hy : ∀ w, S w → (execOp a.eval oi).run P w = .ok (.value v) w) (hQ : ∀ c a w, Q (.panic c) (a.put ds v) w → Q (.panic c) a w)
    (h : Plan P md ops Q S plan fuel (listed.setIfInBounds i true) (a.put ds v) w) : Plan P md ops Q S (i :: plan) fuel listed a w := by
  subst hds
  exact Plan.yields hi (.inl ⟨by rw [wanted_some hg hj hd ht]; simp, hy⟩) hQ h
/-- an operation whose guard does not -/
theorem Plan.off {i j d : Nat} {oi oj : Oper} {ds : Option Tmp} {want b : Bool} {plan : List Nat} {fuel : Nat} {listed : Array Bool} {a : Act} {w : World} (hi : ops[i]? = some oi) (hds : oi.dst = ds) (hg : oi.guard = some (j, want)) (hj : ops[j]? = some oj) (hd : oj.dst = some d) (ht : a.tmps[d]? = some (.bool b)) (hb : (b == want) = false) (hQ : ∀ c a w, Q (.panic c) (a.put ds undef) w → Q (.panic c) a w)
    (h : Plan P md ops Q S plan fuel (listed.setIfInBounds i true) (a.put ds undef) w) : Plan P md ops Q S (i :: plan) fuel listed a w := by
  subst hds
  exact Plan.yields hi (.inr ⟨by rw [wanted_some hg hj hd ht]; exact hb, rfl⟩) hQ h
theorem wanted_on {o oj : Oper} {tmps : Array Value} {j d : Nat} {b : Bool} (h : o.guard = some (j, b)) (hj : ops[j]? = some oj) (hd : oj.dst = some d) (ht : tmps[d]? = some (.bool b)) : Region.wanted o (yielded ops tmps) = true := by
  rw [wanted_some h hj hd ht]; simp
theorem if_on {o : Oper} {p q : Prop} {j d : Nat} {oj : Oper} {tmps : Array Value} {b : Bool} (h : o.guard = some (j, b)) (hj : ops[j]? = some oj) (hd : oj.dst = some d) (ht : tmps[d]? = some (.bool b)) (hp : p) : if Region.wanted o (yielded ops tmps) = true then p else q := by
  rw [if_pos (by rw [wanted_some h hj hd ht]; simp)]; exact hp
theorem if_free {o : Oper} {y : Nat → Option Bool} {p q : Prop} (h : o.guard = none) (hp : p) : if Region.wanted o y = true then p else q := by
  rw [if_pos (wanted_none h)]; exact hp
end
end Go.Proofs.YtecbnhmnhcpcmaaGreatDoor
