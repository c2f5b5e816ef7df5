/- Layer 22's law QuotaMore holds of every input: if units are admitted, fewer are, too, and with more room, more packs, more that may be over, and less that was used. Condition: the package-level variables that the row lists hold what the program's text lays in them. -/
import Derived.Test.YtbjofejloeppkaaDoorQuH
import Derived.Test.YtbjofejloeppkaaDoorQuV
import Derived.Test.YtbjofejloeppkaaDoorOpn
import Derived.Test.YtbjofejloeppkaaDoorCards
import Derived.Test.YtbjofejloeppkaaDoorTie
import Derived.ProofKit
import Derived.OpenShut
import Derived.ShutString
import Derived.ChangeOld
import Derived.Below
import Derived.SizedLaws
import Derived.Lib.SmallJoins
namespace Go.Proofs.YtbjofejloeppkaaDoor.quotaMore
open Go.ChangeShapes Go.WideShapes Go.ChangeAt Go.RowKit Go.Joins
open Go.ChangeMaps (open_string shut_string)
set_option linter.unusedVariables false
theorem laidOut : laidOutB Tryd.prog = true := by kernel_rfl
set_option maxRecDepth 100000 in
theorem lifted (os : Os) (started : os.Started) (H : Type) (enc : TypeId × Value → H) :
    ReturnsInHanded {} Tryd.checked os 3 .any (fun w args => (Rows.quotaMoreSpec.pre enc Tryd.prog Tryd.f3 [] false w args ∧ laidMetH Tryd.prog listsQ w) ∧ sizedMet enc Tryd.prog Tryd.f3 (OpenSpec.ofChange Rows.quotaMoreSpec) false w args)
      (Rows.quotaMoreSpec.post enc Tryd.prog Tryd.f3 false true false false) := by
  refine returnsInHanded_of_change_and (C := Tryd.checked) (X := fun w _ => laidMetH Tryd.prog listsQ w) (fun _ _ _ hh h => h.of_heap hh) ownk started (by kernel_rfl) Tryd.func3
    (ChangeSpec.witness_shaped (enc := enc) (C := Tryd.checked) (os := os) (X := fun w _ => laidMetH Tryd.prog listsQ w) false (World.doorLaid Tryd.prog 400 os) #[.agg #[.int .i64 0, .int .i64 0, .int .i64 0, .int .i64 0, .int .i64 0, .int .i64 0, .int .i64 0, .int .i64 0, .int .i64 0, .int .i64 0], .int .i64 0, .int .u32 0, .agg #[.int .i64 0, .int .i64 0, .int .i64 0, .int .i64 0, .int .i64 0, .int .i64 0, .int .i64 0, .int .i64 0, .int .i64 0, .int .i64 0]] 8 rfl (World.shaped_of_RefB (by kernel_rfl) (by kernel_rfl)) (by kernel_rfl) (by kernel_rfl) (by kernel_rfl) (door_metQ os _)) ?_
  intro W base args ds gs before hval0 hW _ hsz0 hL _
  have hval : ∀ (j : Nat) t v, Tryd.f3.params[j]? = some t → args[j]? = some v → Value.okWide Tryd.prog W .any base t v := hval0
  have hW' := hW
  obtain ⟨p, q, hA0, hV, rfl, hfz, hnd⟩ := hW
  have hA : DataW.TrodAll enc Tryd.prog W 0 (fun _ => true) true Tryd.f3.params.toList args.toList ds p := hA0
  rw [Tryd.params3] at hA hval
  obtain ⟨v0, vs0, d0, ds0, p0, q0, hargs, rfl, rfl, h0, r0⟩ := trodAll_cons hA
  obtain ⟨v1, vs1, d1, ds1, p1, q1, rfl, rfl, rfl, h1, r1⟩ := trodAll_cons r0
  obtain ⟨v2, vs2, d2, ds2, p2, q2, rfl, rfl, rfl, h2, r2⟩ := trodAll_cons r1
  obtain ⟨v3, vs3, d3, ds3, p3, q3, rfl, rfl, rfl, h3, r3⟩ := trodAll_cons r2
  obtain ⟨rfl, rfl, rfl⟩ := trodAll_nil r3
  obtain rfl : args = #[v0, v1, v2, v3] := by cases args; simp_all
  obtain ⟨rfl, rfl⟩ := trodVars_none hV
  have k0 := h0
  have lt0 : ∀ x ∈ p0, x.block < W.heap.size := by obtain ⟨m, hm⟩ := k0; exact DataW.trod_lt m _ _ _ hm
  obtain ⟨e0x0, e0x1, e0x2, e0x3, e0x4, e0x5, e0x6, e0x7, e0x8, e0x9, y0x0, y0x1, y0x2, y0x3, y0x4, y0x5, y0x6, y0x7, y0x8, y0x9, m0, rfl, rfl, rfl, hy0x0, hy0x1, hy0x2, hy0x3, hy0x4, hy0x5, hy0x6, hy0x7, hy0x8, hy0x9⟩ := open_agg10 Tryd.underlying23 (by kernel_rfl) (by kernel_rfl) (hval 0 23 v0 rfl rfl) h0
  obtain ⟨b0x0, x0x0, rfl, w0x0⟩ := DataW.trod_int Tryd.underlying2 hy0x0
  obtain ⟨b0x1, x0x1, rfl, w0x1⟩ := DataW.trod_int Tryd.underlying2 hy0x1
  obtain ⟨b0x2, x0x2, rfl, w0x2⟩ := DataW.trod_int Tryd.underlying2 hy0x2
  obtain ⟨b0x3, x0x3, rfl, w0x3⟩ := DataW.trod_int Tryd.underlying2 hy0x3
  obtain ⟨b0x4, x0x4, rfl, w0x4⟩ := DataW.trod_int Tryd.underlying2 hy0x4
  obtain ⟨b0x5, x0x5, rfl, w0x5⟩ := DataW.trod_int Tryd.underlying2 hy0x5
  obtain ⟨b0x6, x0x6, rfl, w0x6⟩ := DataW.trod_int Tryd.underlying2 hy0x6
  obtain ⟨b0x7, x0x7, rfl, w0x7⟩ := DataW.trod_int Tryd.underlying2 hy0x7
  obtain ⟨b0x8, x0x8, rfl, w0x8⟩ := DataW.trod_int Tryd.underlying2 hy0x8
  obtain ⟨b0x9, x0x9, rfl, w0x9⟩ := DataW.trod_int Tryd.underlying2 hy0x9
  simp only [List.cons.injEq, and_true] at x0x0 x0x1 x0x2 x0x3 x0x4 x0x5 x0x6 x0x7 x0x8 x0x9
  subst x0x0 x0x1 x0x2 x0x3 x0x4 x0x5 x0x6 x0x7 x0x8 x0x9
  have k1 := h1
  have lt1 : ∀ x ∈ p1, x.block < W.heap.size := by obtain ⟨m, hm⟩ := k1; exact DataW.trod_lt m _ _ _ hm
  obtain ⟨a1, rfl, rfl, rfl, w1⟩ := open_int Tryd.underlying2 (hval 1 2 v1 rfl rfl) h1
  have k2 := h2
  have lt2 : ∀ x ∈ p2, x.block < W.heap.size := by obtain ⟨m, hm⟩ := k2; exact DataW.trod_lt m _ _ _ hm
  obtain ⟨a2, rfl, rfl, rfl, w2⟩ := open_int Tryd.underlying24 (hval 2 24 v2 rfl rfl) h2
  have k3 := h3
  have lt3 : ∀ x ∈ p3, x.block < W.heap.size := by obtain ⟨m, hm⟩ := k3; exact DataW.trod_lt m _ _ _ hm
  obtain ⟨e3x0, e3x1, e3x2, e3x3, e3x4, e3x5, e3x6, e3x7, e3x8, e3x9, y3x0, y3x1, y3x2, y3x3, y3x4, y3x5, y3x6, y3x7, y3x8, y3x9, m3, rfl, rfl, rfl, hy3x0, hy3x1, hy3x2, hy3x3, hy3x4, hy3x5, hy3x6, hy3x7, hy3x8, hy3x9⟩ := open_agg10 Tryd.underlying23 (by kernel_rfl) (by kernel_rfl) (hval 3 23 v3 rfl rfl) h3
  obtain ⟨b3x0, x3x0, rfl, w3x0⟩ := DataW.trod_int Tryd.underlying2 hy3x0
  obtain ⟨b3x1, x3x1, rfl, w3x1⟩ := DataW.trod_int Tryd.underlying2 hy3x1
  obtain ⟨b3x2, x3x2, rfl, w3x2⟩ := DataW.trod_int Tryd.underlying2 hy3x2
  obtain ⟨b3x3, x3x3, rfl, w3x3⟩ := DataW.trod_int Tryd.underlying2 hy3x3
  obtain ⟨b3x4, x3x4, rfl, w3x4⟩ := DataW.trod_int Tryd.underlying2 hy3x4
  obtain ⟨b3x5, x3x5, rfl, w3x5⟩ := DataW.trod_int Tryd.underlying2 hy3x5
  obtain ⟨b3x6, x3x6, rfl, w3x6⟩ := DataW.trod_int Tryd.underlying2 hy3x6
  obtain ⟨b3x7, x3x7, rfl, w3x7⟩ := DataW.trod_int Tryd.underlying2 hy3x7
  obtain ⟨b3x8, x3x8, rfl, w3x8⟩ := DataW.trod_int Tryd.underlying2 hy3x8
  obtain ⟨b3x9, x3x9, rfl, w3x9⟩ := DataW.trod_int Tryd.underlying2 hy3x9
  simp only [List.cons.injEq, and_true] at x3x0 x3x1 x3x2 x3x3 x3x4 x3x5 x3x6 x3x7 x3x8 x3x9
  subst x3x0 x3x1 x3x2 x3x3 x3x4 x3x5 x3x6 x3x7 x3x8 x3x9
  rw [MakeChecks.laidMetH_plain _ _ _ (by kernel_rfl)] at hL
  have hE := env_ofQ hL
  clear hA0 hval0 hsz0
  simp only [List.append_nil] at hW'
  refine (more_any ⟨b0x0, b0x1, b0x2, b0x3, b0x4, b0x5, b0x6, b0x7, b0x8, b0x9⟩ ⟨b3x0, b3x1, b3x2, b3x3, b3x4, b3x5, b3x6, b3x7, b3x8, b3x9⟩ a1 a2 W hE (of_i64 w1) ⟨(of_u32 w2).1, by have := of_u32 w2; omega⟩).mono fun e W' ⟨he, bel⟩ => ?_
  subst he
  exact ⟨_, rfl, _, _, _, [], _, [], hW', trodAll_mk1 (shut_bool Tryd.underlying4 _), (trodAll_cons_mk (Below.trod laidOut (by kernel_rfl) (of_decide_eq_true (by kernel_rfl)) k0 bel lt0) (trodAll_cons_mk (Below.trod laidOut (by kernel_rfl) (of_decide_eq_true (by kernel_rfl)) k1 bel lt1) (trodAll_cons_mk (Below.trod laidOut (by kernel_rfl) (of_decide_eq_true (by kernel_rfl)) k2 bel lt2) (trodAll_cons_mk (Below.trod laidOut (by kernel_rfl) (of_decide_eq_true (by kernel_rfl)) k3 bel lt3) trodAll_mk0)))), rfl, bel.frame _, fun h => by cases h⟩
theorem over : Rows.QuotaMoreSaid :=
  OpenClaim.holds_of_wide 3 Tryd.f3 rfl rfl rfl rfl rfl rfl rfl ⟨rfl, rfl, rfl, rfl, rfl⟩ rfl rfl rfl rfl rfl (by kernel_rfl) Tryd.func3 (by kernel_rfl)
    (of_decide_eq_true (by kernel_rfl)) (by unfold Func.isWrapper; first | (rw [if_pos (by decide +kernel)]; kernel_rfl) | (rw [if_neg (by decide +kernel)]; exact ⟨rfl, rfl⟩))
    (fun os started H enc _ => lifted os started H enc)
theorem proved : Rows.QuotaMoreCardSaid :=
  Claim7.holds_tied_plain_at .later [] [.data, .data, .data] true Rows.quotaMoreCard.stood.harness Rows.quotaMoreCard.stood.looks
    over (fun _ h => by cases h) (by kernel_rfl) (fun _ h => by cases h) quotaMore_row_tie rfl ⟨rfl, rfl⟩ (by kernel_rfl) rfl
    (fun f fn hf hfn => by
      obtain rfl : f = 3 := Option.some.inj ((show Tryd.prog.funcNamed "quitrent/quitrentlaw22.QuotaMore" = some 3 by kernel_rfl).symm.trans hf) |>.symm
      obtain rfl : fn = Tryd.f3 := (Option.some.inj (Tryd.func3.symm.trans hfn)).symm
      exact ⟨by kernel_rfl, fun j t ht => by
        rw [Tryd.params3] at ht
        have hm : t ∈ [2, 23, 24] := by have hh := Array.mem_of_getElem? ht; simp at hh ⊢; (repeat' (rcases hh with hh | hh)) <;> simp
        have hall : ([2, 23, 24].all fun u => !Tryd.prog.wantsStandIn u) = true := by kernel_rfl
        exact (show Tryd.prog.wantsStandIn t = false by simpa using List.all_eq_true.1 hall t hm)⟩)
    (by kernel_rfl)
#print axioms proved
end Go.Proofs.YtbjofejloeppkaaDoor.quotaMore
