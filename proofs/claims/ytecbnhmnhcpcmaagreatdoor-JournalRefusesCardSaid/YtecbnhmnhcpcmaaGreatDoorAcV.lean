/- What a tied row's listed variables, and the world's shape, give the walks of acct. -/
import Derived.Test.YtecbnhmnhcpcmaaGreatDoorRows
import Derived.Test.YtecbnhmnhcpcmaaGreatDoorAcB
import Derived.Test.YtecbnhmnhcpcmaaGreatDoorShp
import Derived.ProofKit
import Derived.LaidMore
import Derived.Lay
import Derived.OpenShut
import Derived.Stop.Joined
import Derived.Stop.LaidErr
import Derived.Lib.LaidTab
import Derived.ChangeSame
namespace Go.Proofs.YtecbnhmnhcpcmaaGreatDoor
open Go.RowKit Go.WideShapes Go.ChangeShapes
set_option maxRecDepth 100000
/-- what the rows list -/
def listsA : List (String × DataW Unit) := [("math/bits.deBruijn32tab", Rows.laid_math_bits_deBruijn32tab), ("math/bits.deBruijn64tab", Rows.laid_math_bits_deBruijn64tab), ("internal/strconv.uint64pow10", Rows.laid_internal_strconv_uint64pow10), ("unicode/utf8.acceptRanges", Rows.laid_unicode_utf8_acceptRanges), ("strconv.ErrRange", Rows.laid_strconv_ErrRange), ("strconv.ErrSyntax", Rows.laid_strconv_ErrSyntax), ("unicode/utf8.first", Rows.laid_unicode_utf8_first)]
theorem ownk : ownKnob Tryz.prog.godebug = none := by kernel_rfl
theorem gPow : Tryz.prog.globalNamed "internal/strconv.uint64pow10" = some 3 := by kernel_rfl
theorem tPow : (Tryz.prog.globals[3]?).map (·.type) = some 208 := by kernel_rfl
theorem gRan : Tryz.prog.globalNamed "strconv.ErrRange" = some 1 := by kernel_rfl
theorem gSyn : Tryz.prog.globalNamed "strconv.ErrSyntax" = some 0 := by kernel_rfl
theorem tRan : (Tryz.prog.globals[1]?).map (·.type) = some 122 := by kernel_rfl
theorem tSyn : (Tryz.prog.globals[0]?).map (·.type) = some 122 := by kernel_rfl
theorem star : "*" ++ "errors.errorString" = "*errors.errorString" := by decide
theorem rowErr (u : TypeId) (h : Tryz.prog.typeName? 3 u = some "*errors.errorString") : u = 203 :=
  typeName_ptr_named (nm := "errors.errorString") (by rw [star]; kernel_rfl) (by kernel_rfl) (by decide) u (by rw [star]; exact h)
/-- A world in which the listed variables hold what the rows list. -/
theorem laid_metA (os : Os) (args : Array Value) : laidMetH Tryz.prog listsA ((World.laidAll Tryz.prog os listsA).forCall (fun _ _ => 0) ⟨#[], args, []⟩).memory := by
  rw [MakeChecks.laidMetH_plain _ _ _ (by kernel_rfl)]
  exact laidMet_laidAll _ (by kernel_rfl) (by kernel_rfl)
theorem row_maxl : ∃ zero t, ((begin Tryz.prog (fun _ _ => 0) default).world.heap[2]?).bind Obj.row? = some (zero, t) ∧ zero.size = 1 ∧ t = 3 := ⟨#[.int .i64 0], 3, by kernel_rfl, rfl, rfl⟩
theorem maxl_lt : 2 < Tryz.prog.globals.size := of_decide_eq_true (by kernel_rfl)
theorem env_ofA {W : World} (h : laidMet Tryz.prog listsA W) (hsh : W.ShapedOpen Tryz.prog) : EnvA W := by
  have h2 := h.tail.tail
  have e1 : (Rows.laid_internal_strconv_uint64pow10 : DataW Unit) = Lib.tabData .u64 Lib.pow10Tab := by kernel_rfl
  rw [e1] at h2
  have k1 := Lib.tabIs_of_head gPow tPow Tryz.underlying208 Tryz.underlying23 (by kernel_rfl) (by kernel_rfl) h2
  obtain ⟨a0, s0, hv0, -, -, -⟩ := laid_sentinel h2.tail.tail gRan tRan Tryz.underlying122 rowErr Tryz.underlying203 Tryz.underlying205 rfl rfl Tryz.underlying9 (by kernel_rfl) (by kernel_rfl)
  obtain ⟨a1, s1, hv1, -, -, -⟩ := laid_sentinel h2.tail.tail.tail gSyn tSyn Tryz.underlying122 rowErr Tryz.underlying203 Tryz.underlying205 rfl rfl Tryz.underlying9 (by kernel_rfl) (by kernel_rfl)
  refine ⟨k1, ?_, ⟨_, _, by have h0 := World.var?_cell gSyn hv1 0; simpa using h0⟩, ⟨_, _, by have h0 := World.var?_cell gRan hv0 0; simpa using h0⟩⟩
  obtain ⟨zero, t, r1, r2, r3⟩ := row_maxl
  subst r3
  exact Go.Proofs.cell_of_shapedOpen_int hsh maxl_lt r1 r2 (by kernel_rfl) (by kernel_rfl) Tryz.underlying3
end Go.Proofs.YtecbnhmnhcpcmaaGreatDoor
