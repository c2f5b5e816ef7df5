/- Layer 22's law QuotaEdge holds of every input: just as many units are admitted as there is room for, and one more is not. Condition: the package-level variables that the row lists hold what the program's text lays in them. -/
import Derived.Test.YtbjofejloeppkaaDoorQuJ
import Derived.Test.YtbjofejloeppkaaDoorQuV
import Derived.Test.YtbjofejloeppkaaDoorOpn
import Derived.Test.YtbjofejloeppkaaDoorCards
import Derived.Test.YtbjofejloeppkaaDoorTie
import Derived.ProofKit
import Derived.OpenShut
import Derived.ShutString
import Derived.ChangeOld
import Derived.Below
import Derived.SizedLaws
import Derived.Lib.SmallJoins
namespace Go.Proofs.YtbjofejloeppkaaDoor.quotaEdge
open Go.ChangeShapes Go.WideShapes Go.ChangeAt Go.RowKit Go.Joins
open Go.ChangeMaps (open_string shut_string)
set_option linter.unusedVariables false
theorem laidOut : laidOutB Tryd.prog = true := by kernel_rfl
set_option maxRecDepth 100000 in
theorem lifted (os : Os) (started : os.Started) (H : Type) (enc : TypeId × Value → H) :
    ReturnsInHanded {} Tryd.checked os 4 .any (fun w args => (Rows.quotaEdgeSpec.pre enc Tryd.prog Tryd.f4 [] false w args ∧ laidMetH Tryd.prog listsQ w) ∧ sizedMet enc Tryd.prog Tryd.f4 (OpenSpec.ofChange Rows.quotaEdgeSpec) false w args)
      (Rows.quotaEdgeSpec.post enc Tryd.prog Tryd.f4 false true false false) := by
  refine returnsInHanded_of_change_and (C := Tryd.checked) (X := fun w _ => laidMetH Tryd.prog listsQ w) (fun _ _ _ hh h => h.of_heap hh) ownk started (by kernel_rfl) Tryd.func4
    (ChangeSpec.witness_shaped (enc := enc) (C := Tryd.checked) (os := os) (X := fun w _ => laidMetH Tryd.prog listsQ w) false (World.doorLaid Tryd.prog 400 os) #[.agg #[.int .i64 0, .int .i64 0, .int .i64 0, .int .i64 0, .int .i64 0, .int .i64 0, .int .i64 0, .int .i64 0, .int .i64 0, .int .i64 0]] 8 rfl (World.shaped_of_RefB (by kernel_rfl) (by kernel_rfl)) (by kernel_rfl) (by kernel_rfl) (by kernel_rfl) (door_metQ os _)) ?_
  intro W base args ds gs before hval0 hW _ hsz0 hL _
  have hval : ∀ (j : Nat) t v, Tryd.f4.params[j]? = some t → args[j]? = some v → Value.okWide Tryd.prog W .any base t v := hval0
  have hW' := hW
  obtain ⟨p, q, hA0, hV, rfl, hfz, hnd⟩ := hW
  have hA : DataW.TrodAll enc Tryd.prog W 0 (fun _ => true) true Tryd.f4.params.toList args.toList ds p := hA0
  rw [Tryd.params4] at hA hval
  obtain ⟨v0, vs0, d0, ds0, p0, q0, hargs, rfl, rfl, h0, r0⟩ := trodAll_cons hA
  obtain ⟨rfl, rfl, rfl⟩ := trodAll_nil r0
  obtain rfl : args = #[v0] := by cases args; simp_all
  obtain ⟨rfl, rfl⟩ := trodVars_none hV
  have k0 := h0
  have lt0 : ∀ x ∈ p0, x.block < W.heap.size := by obtain ⟨m, hm⟩ := k0; exact DataW.trod_lt m _ _ _ hm
  obtain ⟨e0x0, e0x1, e0x2, e0x3, e0x4, e0x5, e0x6, e0x7, e0x8, e0x9, y0x0, y0x1, y0x2, y0x3, y0x4, y0x5, y0x6, y0x7, y0x8, y0x9, m0, rfl, rfl, rfl, hy0x0, hy0x1, hy0x2, hy0x3, hy0x4, hy0x5, hy0x6, hy0x7, hy0x8, hy0x9⟩ := open_agg10 Tryd.underlying23 (by kernel_rfl) (by kernel_rfl) (hval 0 23 v0 rfl rfl) h0
  obtain ⟨b0x0, x0x0, rfl, w0x0⟩ := DataW.trod_int Tryd.underlying2 hy0x0
  obtain ⟨b0x1, x0x1, rfl, w0x1⟩ := DataW.trod_int Tryd.underlying2 hy0x1
  obtain ⟨b0x2, x0x2, rfl, w0x2⟩ := DataW.trod_int Tryd.underlying2 hy0x2
  obtain ⟨b0x3, x0x3, rfl, w0x3⟩ := DataW.trod_int Tryd.underlying2 hy0x3
  obtain ⟨b0x4, x0x4, rfl, w0x4⟩ := DataW.trod_int Tryd.underlying2 hy0x4
  obtain ⟨b0x5, x0x5, rfl, w0x5⟩ := DataW.trod_int Tryd.underlying2 hy0x5
  obtain ⟨b0x6, x0x6, rfl, w0x6⟩ := DataW.trod_int Tryd.underlying2 hy0x6
  obtain ⟨b0x7, x0x7, rfl, w0x7⟩ := DataW.trod_int Tryd.underlying2 hy0x7
  obtain ⟨b0x8, x0x8, rfl, w0x8⟩ := DataW.trod_int Tryd.underlying2 hy0x8
  obtain ⟨b0x9, x0x9, rfl, w0x9⟩ := DataW.trod_int Tryd.underlying2 hy0x9
  simp only [List.cons.injEq, and_true] at x0x0 x0x1 x0x2 x0x3 x0x4 x0x5 x0x6 x0x7 x0x8 x0x9
  subst x0x0 x0x1 x0x2 x0x3 x0x4 x0x5 x0x6 x0x7 x0x8 x0x9
  rw [MakeChecks.laidMetH_plain _ _ _ (by kernel_rfl)] at hL
  have hE := env_ofQ hL
  clear hA0 hval0 hsz0
  simp only [List.append_nil] at hW'
  refine (edge_any ⟨b0x0, b0x1, b0x2, b0x3, b0x4, b0x5, b0x6, b0x7, b0x8, b0x9⟩ W hE).mono fun e W' ⟨he, bel⟩ => ?_
  subst he
  exact ⟨_, rfl, _, _, _, [], _, [], hW', trodAll_mk1 (shut_bool Tryd.underlying4 _), (trodAll_cons_mk (Below.trod laidOut (by kernel_rfl) (of_decide_eq_true (by kernel_rfl)) k0 bel lt0) trodAll_mk0), rfl, bel.frame _, fun h => by cases h⟩
theorem over : Rows.QuotaEdgeSaid :=
  OpenClaim.holds_of_wide 4 Tryd.f4 rfl rfl rfl rfl rfl rfl rfl ⟨rfl, rfl, rfl, rfl, rfl⟩ rfl rfl rfl rfl rfl (by kernel_rfl) Tryd.func4 (by kernel_rfl)
    (of_decide_eq_true (by kernel_rfl)) (by unfold Func.isWrapper; first | (rw [if_pos (by decide +kernel)]; kernel_rfl) | (rw [if_neg (by decide +kernel)]; exact ⟨rfl, rfl⟩))
    (fun os started H enc _ => lifted os started H enc)
theorem proved : Rows.QuotaEdgeCardSaid :=
  Claim7.holds_tied_plain_at .later [] [.data, .data, .data] true Rows.quotaEdgeCard.stood.harness Rows.quotaEdgeCard.stood.looks
    over (fun _ h => by cases h) (by kernel_rfl) (fun _ h => by cases h) quotaEdge_row_tie rfl ⟨rfl, rfl⟩ (by kernel_rfl) rfl
    (fun f fn hf hfn => by
      obtain rfl : f = 4 := Option.some.inj ((show Tryd.prog.funcNamed "quitrent/quitrentlaw22.QuotaEdge" = some 4 by kernel_rfl).symm.trans hf) |>.symm
      obtain rfl : fn = Tryd.f4 := (Option.some.inj (Tryd.func4.symm.trans hfn)).symm
      exact ⟨by kernel_rfl, fun j t ht => by
        rw [Tryd.params4] at ht
        have hm : t ∈ [23] := by have hh := Array.mem_of_getElem? ht; simp at hh ⊢; (repeat' (rcases hh with hh | hh)) <;> simp
        have hall : ([23].all fun u => !Tryd.prog.wantsStandIn u) = true := by kernel_rfl
        exact (show Tryd.prog.wantsStandIn t = false by simpa using List.all_eq_true.1 hall t hm)⟩)
    (by kernel_rfl)
#print axioms proved
end Go.Proofs.YtbjofejloeppkaaDoor.quotaEdge
