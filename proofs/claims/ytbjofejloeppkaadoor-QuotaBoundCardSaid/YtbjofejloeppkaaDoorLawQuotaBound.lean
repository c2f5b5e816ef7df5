/- Layer 22's law QuotaBound holds of every input: what is admitted, and taken, stays within the allowance, what is left of the packs, and what may be over. Condition: the package-level variables that the row lists hold what the program's text lays in them. -/
import Derived.Test.YtbjofejloeppkaaDoorQuO
import Derived.Test.YtbjofejloeppkaaDoorQuV
import Derived.Test.YtbjofejloeppkaaDoorOpn
import Derived.Test.YtbjofejloeppkaaDoorCards
import Derived.Test.YtbjofejloeppkaaDoorTie
import Derived.ProofKit
import Derived.OpenShut
import Derived.ShutString
import Derived.ChangeOld
import Derived.Below
import Derived.SizedLaws
import Derived.Lib.SmallJoins
namespace Go.Proofs.YtbjofejloeppkaaDoor.quotaBound
open Go.ChangeShapes Go.WideShapes Go.ChangeAt Go.RowKit Go.Joins
open Go.ChangeMaps (open_string shut_string)
set_option linter.unusedVariables false
theorem laidOut : laidOutB Tryd.prog = true := by kernel_rfl
set_option maxRecDepth 100000 in
theorem lifted (os : Os) (started : os.Started) (H : Type) (enc : TypeId × Value → H) :
    ReturnsInHanded {} Tryd.checked os 5 .any (fun w args => (Rows.quotaBoundSpec.pre enc Tryd.prog Tryd.f5 [] false w args ∧ laidMetH Tryd.prog listsQ w) ∧ sizedMet enc Tryd.prog Tryd.f5 (OpenSpec.ofChange Rows.quotaBoundSpec) false w args)
      (Rows.quotaBoundSpec.post enc Tryd.prog Tryd.f5 false true false false) := by
  refine returnsInHanded_of_change_and (C := Tryd.checked) (X := fun w _ => laidMetH Tryd.prog listsQ w) (fun _ _ _ hh h => h.of_heap hh) ownk started (by kernel_rfl) Tryd.func5
    (ChangeSpec.witness_shaped (enc := enc) (C := Tryd.checked) (os := os) (X := fun w _ => laidMetH Tryd.prog listsQ w) false (World.doorLaid Tryd.prog 400 os) #[.int .u32 0, .agg #[.int .i64 0, .int .i64 0, .int .i64 0, .int .u32 0], .agg #[.int .i64 0, .int .i64 0, .int .i64 0, .int .i64 0, .int .i64 0, .int .i64 0, .int .i64 0, .int .i64 0, .int .i64 0, .int .i64 0], .slice none 0 0, .int .i64 0] 8 rfl (World.shaped_of_RefB (by kernel_rfl) (by kernel_rfl)) (by kernel_rfl) (by kernel_rfl) (by kernel_rfl) (door_metQ os _)) ?_
  intro W base args ds gs before hval0 hW _ hsz0 hL _
  have hval : ∀ (j : Nat) t v, Tryd.f5.params[j]? = some t → args[j]? = some v → Value.okWide Tryd.prog W .any base t v := hval0
  have hW' := hW
  obtain ⟨p, q, hA0, hV, rfl, hfz, hnd⟩ := hW
  have hA : DataW.TrodAll enc Tryd.prog W 0 (fun _ => true) true Tryd.f5.params.toList args.toList ds p := hA0
  rw [Tryd.params5] at hA hval
  obtain ⟨v0, vs0, d0, ds0, p0, q0, hargs, rfl, rfl, h0, r0⟩ := trodAll_cons hA
  obtain ⟨v1, vs1, d1, ds1, p1, q1, rfl, rfl, rfl, h1, r1⟩ := trodAll_cons r0
  obtain ⟨v2, vs2, d2, ds2, p2, q2, rfl, rfl, rfl, h2, r2⟩ := trodAll_cons r1
  obtain ⟨v3, vs3, d3, ds3, p3, q3, rfl, rfl, rfl, h3, r3⟩ := trodAll_cons r2
  obtain ⟨v4, vs4, d4, ds4, p4, q4, rfl, rfl, rfl, h4, r4⟩ := trodAll_cons r3
  obtain ⟨rfl, rfl, rfl⟩ := trodAll_nil r4
  obtain rfl : args = #[v0, v1, v2, v3, v4] := by cases args; simp_all
  obtain ⟨rfl, rfl⟩ := trodVars_none hV
  have k0 := h0
  have lt0 : ∀ x ∈ p0, x.block < W.heap.size := by obtain ⟨m, hm⟩ := k0; exact DataW.trod_lt m _ _ _ hm
  obtain ⟨a0, rfl, rfl, rfl, w0⟩ := open_int Tryd.underlying24 (hval 0 24 v0 rfl rfl) h0
  have k1 := h1
  have lt1 : ∀ x ∈ p1, x.block < W.heap.size := by obtain ⟨m, hm⟩ := k1; exact DataW.trod_lt m _ _ _ hm
  obtain ⟨e1x0, e1x1, e1x2, e1x3, y1x0, y1x1, y1x2, y1x3, m1, rfl, rfl, rfl, hy1x0, hy1x1, hy1x2, hy1x3⟩ := open_agg4 Tryd.underlying31 (by kernel_rfl) (by kernel_rfl) (hval 1 31 v1 rfl rfl) h1
  obtain ⟨b1x0, x1x0, rfl, w1x0⟩ := DataW.trod_int Tryd.underlying2 hy1x0
  obtain ⟨b1x1, x1x1, rfl, w1x1⟩ := DataW.trod_int Tryd.underlying2 hy1x1
  obtain ⟨b1x2, x1x2, rfl, w1x2⟩ := DataW.trod_int Tryd.underlying2 hy1x2
  obtain ⟨b1x3, x1x3, rfl, w1x3⟩ := DataW.trod_int Tryd.underlying24 hy1x3
  simp only [List.cons.injEq, and_true] at x1x0 x1x1 x1x2 x1x3
  subst x1x0 x1x1 x1x2 x1x3
  have k2 := h2
  have lt2 : ∀ x ∈ p2, x.block < W.heap.size := by obtain ⟨m, hm⟩ := k2; exact DataW.trod_lt m _ _ _ hm
  obtain ⟨e2x0, e2x1, e2x2, e2x3, e2x4, e2x5, e2x6, e2x7, e2x8, e2x9, y2x0, y2x1, y2x2, y2x3, y2x4, y2x5, y2x6, y2x7, y2x8, y2x9, m2, rfl, rfl, rfl, hy2x0, hy2x1, hy2x2, hy2x3, hy2x4, hy2x5, hy2x6, hy2x7, hy2x8, hy2x9⟩ := open_agg10 Tryd.underlying23 (by kernel_rfl) (by kernel_rfl) (hval 2 23 v2 rfl rfl) h2
  obtain ⟨b2x0, x2x0, rfl, w2x0⟩ := DataW.trod_int Tryd.underlying2 hy2x0
  obtain ⟨b2x1, x2x1, rfl, w2x1⟩ := DataW.trod_int Tryd.underlying2 hy2x1
  obtain ⟨b2x2, x2x2, rfl, w2x2⟩ := DataW.trod_int Tryd.underlying2 hy2x2
  obtain ⟨b2x3, x2x3, rfl, w2x3⟩ := DataW.trod_int Tryd.underlying2 hy2x3
  obtain ⟨b2x4, x2x4, rfl, w2x4⟩ := DataW.trod_int Tryd.underlying2 hy2x4
  obtain ⟨b2x5, x2x5, rfl, w2x5⟩ := DataW.trod_int Tryd.underlying2 hy2x5
  obtain ⟨b2x6, x2x6, rfl, w2x6⟩ := DataW.trod_int Tryd.underlying2 hy2x6
  obtain ⟨b2x7, x2x7, rfl, w2x7⟩ := DataW.trod_int Tryd.underlying2 hy2x7
  obtain ⟨b2x8, x2x8, rfl, w2x8⟩ := DataW.trod_int Tryd.underlying2 hy2x8
  obtain ⟨b2x9, x2x9, rfl, w2x9⟩ := DataW.trod_int Tryd.underlying2 hy2x9
  simp only [List.cons.injEq, and_true] at x2x0 x2x1 x2x2 x2x3 x2x4 x2x5 x2x6 x2x7 x2x8 x2x9
  subst x2x0 x2x1 x2x2 x2x3 x2x4 x2x5 x2x6 x2x7 x2x8 x2x9
  have k3 := h3
  have lt3 : ∀ x ∈ p3, x.block < W.heap.size := by obtain ⟨m, hm⟩ := k3; exact DataW.trod_lt m _ _ _ hm
  obtain ⟨n3, N3, l3, z3⟩ := open_nums Tryd.underlying32 Tryd.underlying24 (by kernel_rfl) (hval 3 32 v3 rfl rfl) h3
  have k4 := h4
  have lt4 : ∀ x ∈ p4, x.block < W.heap.size := by obtain ⟨m, hm⟩ := k4; exact DataW.trod_lt m _ _ _ hm
  obtain ⟨a4, rfl, rfl, rfl, w4⟩ := open_int Tryd.underlying2 (hval 4 2 v4 rfl rfl) h4
  rw [MakeChecks.laidMetH_plain _ _ _ (by kernel_rfl)] at hL
  have hE := env_ofQ hL
  clear hA0 hval0 hsz0
  simp only [List.append_nil] at hW'
  refine (bound_any a0 b1x0 b1x1 b1x2 b1x3 b2x0 b2x1 b2x2 b2x3 b2x4 b2x5 b2x6 b2x7 b2x8 b2x9 a4 v3 n3 W hE N3 (fun u hu => of_u32 (z3 u hu)) ⟨(of_u32 w0).1, by have := of_u32 w0; omega⟩ (of_i64 w4)).mono fun e W' ⟨he, bel⟩ => ?_
  subst he
  exact ⟨_, rfl, _, _, _, [], _, [], hW', trodAll_mk1 (shut_bool Tryd.underlying4 _), (trodAll_cons_mk (Below.trod laidOut (by kernel_rfl) (of_decide_eq_true (by kernel_rfl)) k0 bel lt0) (trodAll_cons_mk (Below.trod laidOut (by kernel_rfl) (of_decide_eq_true (by kernel_rfl)) k1 bel lt1) (trodAll_cons_mk (Below.trod laidOut (by kernel_rfl) (of_decide_eq_true (by kernel_rfl)) k2 bel lt2) (trodAll_cons_mk (Below.trod laidOut (by kernel_rfl) (of_decide_eq_true (by kernel_rfl)) k3 bel lt3) (trodAll_cons_mk (Below.trod laidOut (by kernel_rfl) (of_decide_eq_true (by kernel_rfl)) k4 bel lt4) trodAll_mk0))))), rfl, bel.frame _, fun h => by cases h⟩
theorem over : Rows.QuotaBoundSaid :=
  OpenClaim.holds_of_wide 5 Tryd.f5 rfl rfl rfl rfl rfl rfl rfl ⟨rfl, rfl, rfl, rfl, rfl⟩ rfl rfl rfl rfl rfl (by kernel_rfl) Tryd.func5 (by kernel_rfl)
    (of_decide_eq_true (by kernel_rfl)) (by unfold Func.isWrapper; first | (rw [if_pos (by decide +kernel)]; kernel_rfl) | (rw [if_neg (by decide +kernel)]; exact ⟨rfl, rfl⟩))
    (fun os started H enc _ => lifted os started H enc)
theorem proved : Rows.QuotaBoundCardSaid :=
  Claim7.holds_tied_plain_at .later [] [.data, .data, .data] true Rows.quotaBoundCard.stood.harness Rows.quotaBoundCard.stood.looks
    over (fun _ h => by cases h) (by kernel_rfl) (fun _ h => by cases h) quotaBound_row_tie rfl ⟨rfl, rfl⟩ (by kernel_rfl) rfl
    (fun f fn hf hfn => by
      obtain rfl : f = 5 := Option.some.inj ((show Tryd.prog.funcNamed "quitrent/quitrentlaw22.QuotaBound" = some 5 by kernel_rfl).symm.trans hf) |>.symm
      obtain rfl : fn = Tryd.f5 := (Option.some.inj (Tryd.func5.symm.trans hfn)).symm
      exact ⟨by kernel_rfl, fun j t ht => by
        rw [Tryd.params5] at ht
        have hm : t ∈ [32, 2, 23, 31, 24] := by have hh := Array.mem_of_getElem? ht; simp at hh ⊢; (repeat' (rcases hh with hh | hh)) <;> simp
        have hall : ([32, 2, 23, 31, 24].all fun u => !Tryd.prog.wantsStandIn u) = true := by kernel_rfl
        exact (show Tryd.prog.wantsStandIn t = false by simpa using List.all_eq_true.1 hall t hm)⟩)
    (by kernel_rfl)
#print axioms proved
end Go.Proofs.YtbjofejloeppkaaDoor.quotaBound
