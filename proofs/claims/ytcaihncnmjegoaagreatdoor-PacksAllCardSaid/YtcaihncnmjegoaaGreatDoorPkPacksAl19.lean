/- The walk of the law PacksApart. (Printed by gen_pam.py.) The laws of packs as their rows want them; what an argument of acts reads as. The law PacksAll as its row wants it. The wrap of a tied law's row, the world's shape handed on to the walk. No program. What a tied row's listed variables, and the world's shape, give the walks of acct. -/
import Derived.Test.YtcaihncnmjegoaaGreatDoorPkPacksAl17
import Derived.Test.YtcaihncnmjegoaaGreatDoorPkPacksAl4
import Derived.Test.YtcaihncnmjegoaaGreatDoorPkPacksAl18
import Derived.Handed
import Derived.HandedShaped
import Derived.Shelf.Vars
import Derived.Test.YtcaihncnmjegoaaGreatDoorRows
import Derived.Test.YtcaihncnmjegoaaGreatDoorPkPacksAl7
import Derived.ProofKit
import Derived.LaidMore
import Derived.Lay
import Derived.OpenShut
import Derived.Stop.Joined
import Derived.Stop.LaidErr
import Derived.Lib.LaidTab
import Derived.ChangeSame
/-! The walk of the law PacksApart. (Printed by gen_pam.py.) -/
namespace Go.Proofs.YtcaihncnmjegoaaGreatDoor
open Go.RowKit Go.WideMaps Go.Maps
set_option linter.unusedVariables false
set_option linter.unusedSimpArgs false
set_option maxRecDepth 10000000
/-- an act -/
structure PAct where
  d : Int
  n : Int
  t : Int
  z : Int
def PAct.cells (a : PAct) : List Value := [.int .u8 a.d, .int .i64 a.n, .int .i64 a.t, .int .i64 a.z]
def PAct.ok (a : PAct) : Prop := Acct.inInt a.n ∧ Acct.inInt a.t ∧ Acct.inInt a.z
end Go.Proofs.YtcaihncnmjegoaaGreatDoor

/-! The laws of packs as their rows want them; what an argument of acts reads as. -/
namespace Go.Proofs.YtcaihncnmjegoaaGreatDoor
open Go.RowKit
set_option linter.unusedVariables false
set_option linter.unusedSimpArgs false
set_option maxRecDepth 1000000
theorem of_u16P {n : Int} (h : (Lit.int .u16 n).wf = true) : 0 ≤ n ∧ n < 65536 := by
  simp only [Lit.wf] at h
  rw [show IntKind.u16.min = 0 from by decide, show IntKind.u16.max = 65535 from by decide, Bool.and_eq_true, decide_eq_true_eq, decide_eq_true_eq] at h
  omega
end Go.Proofs.YtcaihncnmjegoaaGreatDoor

/-! The law PacksAll as its row wants it. -/
namespace Go.Proofs.YtcaihncnmjegoaaGreatDoor
open Go.RowKit
set_option linter.unusedVariables false
theorem packsAll_row (a0 : Int) (v1 : Value) (n1 : List Int) (a2 a3 : Int) (W : World) (hE : EnvA W) (h1 : NumsAt .u32 W v1 n1) (l1 : n1.length ≤ maxLen) (z1 : ∀ n ∈ n1, (Lit.int .u32 n).wf = true) (w0 : (Lit.int .u32 a0).wf = true) (w2 : (Lit.int .u16 a2).wf = true) (w3 : (Lit.int .u16 a3).wf = true) :
    Calls Tryz.prog 7 #[.int .u32 a0, v1, .int .u16 a2, .int .u16 a3] W fun e w' => e = .returned (.bool true) ∧ Below W.heap.size W w' :=
  packsAll_any a0 a2 a3 v1 n1 W hE h1 (fun t ht => by have := of_u32 (z1 t ht); omega) l1 (by have := of_u32 w0; omega) (of_u16P w2) (of_u16P w3)
end Go.Proofs.YtcaihncnmjegoaaGreatDoor

/-! The wrap of a tied law's row, the world's shape handed on to the walk. No program. -/
namespace Go.Proofs.YtcaihncnmjegoaaGreatDoor
open Go
theorem handed_shaped {H : Type} {enc : TypeId × Value → H} {a : Assume} {C : Checked} {os : Os} {f : FuncId} {fn : Func} {s : ChangeSpec} {conds : List PathCond} {apart fresh handsOn again : Bool} {X : World → Array Value → Prop}
    (hX : ∀ (w w' : World) (args : Array Value), w.heap = w'.heap → X w args → X w' args)
    (own : ownKnob C.prog.godebug = none) (started : os.Started) (noInit : C.prog.inits.idxOf? f = none) (hfn : C.prog.funcs[f]? = some fn)
    (witness : ∃ (w : World) (tape : Tape) (i : Input), w.os = os ∧ (w.forCall tape i).Shaped C.prog ∧ i.vars = [] ∧ Input.okWide C.prog (w.forCall tape i) .any w.heap.size f i ∧
      ((s.pre enc C.prog fn conds apart (w.forCall tape i).memory i.args ∧ X (w.forCall tape i).memory i.args) ∧ sizedMet enc C.prog fn (OpenSpec.ofChange s) apart (w.forCall tape i).memory i.args) ∧ a.holds C.prog (lone (Frame.enter C.prog f i.args .normal) [] (w.forCall tape i)))
    (walk : ∀ (W : World) (base : Nat) (args : Array Value) (ds gs : List (DataW H)) (before : List MemPlace),
      (∀ (j : Nat) t v, fn.params[j]? = some t → args[j]? = some v → Value.okWide C.prog W .any base t v) →
      DataW.Whole enc C.prog fn.params.toList s.vars apart W args.toList ds gs before →
      (DataW.weightsEach C.prog (fn.params.toList ++ s.plain.varTypes C.prog) (ds ++ gs)).all (· ≤ reachBytes) = true → X W args → W.ShapedOpen C.prog →
      Calls C.prog f args W fun e W' => ∃ v, e = .returned v ∧ s.post enc C.prog fn apart fresh handsOn again W args v W') :
    ReturnsInHanded a C os f .any (fun w args => (s.pre enc C.prog fn conds apart w args ∧ X w args) ∧ sizedMet enc C.prog fn (OpenSpec.ofChange s) apart w args) (s.post enc C.prog fn apart fresh handsOn again) := by
  refine returnsInHanded_of_calls own started noInit witness fun w tape i _ hsh _ hok hpre _ => ?_
  obtain ⟨_, _, _, g, hg, _, _, _, _, hval⟩ := hok
  obtain rfl : g = fn := Option.some.inj (hg.symm.trans hfn)
  obtain ⟨⟨⟨ds, gs, before, hw, _⟩, hx⟩, hz⟩ := hpre
  have hw2 := DataW.Whole.of_heap (w' := w.forCall tape i) (by rfl) hw
  refine (walk (w.forCall tape i) w.heap.size i.args ds gs before hval hw2 (hz.weights hw) (hX _ _ _ (by rfl) hx) hsh).mono fun e W' ⟨v, he, hp⟩ => ?_
  subst he
  exact ChangeSpec.post_blind hp
end Go.Proofs.YtcaihncnmjegoaaGreatDoor

/-! What a tied row's listed variables, and the world's shape, give the walks of acct. -/
namespace Go.Proofs.YtcaihncnmjegoaaGreatDoor
open Go.RowKit Go.WideShapes Go.ChangeShapes
set_option maxRecDepth 100000
/-- what the rows list -/
def listsA : List (String × DataW Unit) := [("math/bits.deBruijn32tab", Rows.laid_math_bits_deBruijn32tab), ("math/bits.deBruijn64tab", Rows.laid_math_bits_deBruijn64tab), ("internal/strconv.uint64pow10", Rows.laid_internal_strconv_uint64pow10), ("unicode/utf8.acceptRanges", Rows.laid_unicode_utf8_acceptRanges), ("strconv.ErrRange", Rows.laid_strconv_ErrRange), ("strconv.ErrSyntax", Rows.laid_strconv_ErrSyntax), ("unicode/utf8.first", Rows.laid_unicode_utf8_first)]
theorem ownk : ownKnob Tryz.prog.godebug = none := by kernel_rfl
theorem gPow : Tryz.prog.globalNamed "internal/strconv.uint64pow10" = some 0 := by kernel_rfl
theorem tPow : (Tryz.prog.globals[0]?).map (·.type) = some 161 := by kernel_rfl
theorem gRan : Tryz.prog.globalNamed "strconv.ErrRange" = some 2 := by kernel_rfl
theorem gSyn : Tryz.prog.globalNamed "strconv.ErrSyntax" = some 1 := by kernel_rfl
theorem tRan : (Tryz.prog.globals[2]?).map (·.type) = some 135 := by kernel_rfl
theorem tSyn : (Tryz.prog.globals[1]?).map (·.type) = some 135 := by kernel_rfl
theorem star : "*" ++ "errors.errorString" = "*errors.errorString" := by decide
theorem rowErr (u : TypeId) (h : Tryz.prog.typeName? 3 u = some "*errors.errorString") : u = 187 :=
  typeName_ptr_named (nm := "errors.errorString") (by rw [star]; kernel_rfl) (by kernel_rfl) (by decide) u (by rw [star]; exact h)
/-- A world in which the listed variables hold what the rows list. -/
theorem laid_metA (os : Os) (args : Array Value) : laidMetH Tryz.prog listsA ((World.laidAll Tryz.prog os listsA).forCall (fun _ _ => 0) ⟨#[], args, []⟩).memory := by
  rw [MakeChecks.laidMetH_plain _ _ _ (by kernel_rfl)]
  exact laidMet_laidAll _ (by kernel_rfl) (by kernel_rfl)
theorem row_maxl : ∃ zero t, ((begin Tryz.prog (fun _ _ => 0) default).world.heap[5]?).bind Obj.row? = some (zero, t) ∧ zero.size = 1 ∧ t = 3 := ⟨#[.int .i64 0], 3, by kernel_rfl, rfl, rfl⟩
theorem maxl_lt : 5 < Tryz.prog.globals.size := of_decide_eq_true (by kernel_rfl)
theorem env_ofA {W : World} (h : laidMet Tryz.prog listsA W) (hsh : W.ShapedOpen Tryz.prog) : EnvA W := by
  have h2 := h.tail.tail
  have e1 : (Rows.laid_internal_strconv_uint64pow10 : DataW Unit) = Lib.tabData .u64 Lib.pow10Tab := by kernel_rfl
  rw [e1] at h2
  have k1 := Lib.tabIs_of_head gPow tPow Tryz.underlying161 Tryz.underlying64 (by kernel_rfl) (by kernel_rfl) h2
  obtain ⟨a0, s0, hv0, -, -, -⟩ := laid_sentinel h2.tail.tail gRan tRan Tryz.underlying135 rowErr Tryz.underlying187 Tryz.underlying189 rfl rfl Tryz.underlying9 (by kernel_rfl) (by kernel_rfl)
  obtain ⟨a1, s1, hv1, -, -, -⟩ := laid_sentinel h2.tail.tail.tail gSyn tSyn Tryz.underlying135 rowErr Tryz.underlying187 Tryz.underlying189 rfl rfl Tryz.underlying9 (by kernel_rfl) (by kernel_rfl)
  refine ⟨k1, ?_, ⟨_, _, by have h0 := World.var?_cell gSyn hv1 0; simpa using h0⟩, ⟨_, _, by have h0 := World.var?_cell gRan hv0 0; simpa using h0⟩⟩
  obtain ⟨zero, t, r1, r2, r3⟩ := row_maxl
  subst r3
  exact Go.Proofs.cell_of_shapedOpen_int hsh maxl_lt r1 r2 (by kernel_rfl) (by kernel_rfl) Tryz.underlying3
end Go.Proofs.YtcaihncnmjegoaaGreatDoor

