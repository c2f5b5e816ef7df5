/- What a tied row's listed variables, and the world's shape, give the walks of render. -/
import Derived.Test.YtmppkhjjlgngkaaGreatDoorRows
import Derived.Test.YtmppkhjjlgngkaaGreatDoorRnF
import Derived.Test.YtmppkhjjlgngkaaGreatDoorShp
import Derived.ProofKit
import Derived.LaidMore
import Derived.Lay
import Derived.OpenShut
import Derived.Stop.Joined
import Derived.Stop.LaidErr
import Derived.Lib.LaidTab
import Derived.ChangeSame
namespace Go.Proofs.YtmppkhjjlgngkaaGreatDoor
open Go.RowKit Go.WideShapes Go.ChangeShapes Civ
set_option maxRecDepth 100000
/-- what the rows list -/
def listsR : List (String × DataW Unit) := [("math/bits.deBruijn32tab", Rows.laid_math_bits_deBruijn32tab), ("math/bits.deBruijn64tab", Rows.laid_math_bits_deBruijn64tab), ("internal/strconv.uint64pow10", Rows.laid_internal_strconv_uint64pow10), ("unicode/utf8.acceptRanges", Rows.laid_unicode_utf8_acceptRanges), ("strconv.ErrRange", Rows.laid_strconv_ErrRange), ("strconv.ErrSyntax", Rows.laid_strconv_ErrSyntax), ("quitrent/civil.lengths", Rows.laid_quitrent_civil_lengths), ("unicode/utf8.first", Rows.laid_unicode_utf8_first)]
theorem ownk : ownKnob Tryz.prog.godebug = none := by kernel_rfl
theorem gPow : Tryz.prog.globalNamed "internal/strconv.uint64pow10" = some 1 := by kernel_rfl
theorem tPow : (Tryz.prog.globals[1]?).map (·.type) = some 109 := by kernel_rfl
theorem gLen : Tryz.prog.globalNamed "quitrent/civil.lengths" = some 0 := by kernel_rfl
theorem tLen : (Tryz.prog.globals[0]?).map (·.type) = some 73 := by kernel_rfl
theorem gRan : Tryz.prog.globalNamed "strconv.ErrRange" = some 4 := by kernel_rfl
theorem gSyn : Tryz.prog.globalNamed "strconv.ErrSyntax" = some 3 := by kernel_rfl
theorem tRan : (Tryz.prog.globals[4]?).map (·.type) = some 81 := by kernel_rfl
theorem tSyn : (Tryz.prog.globals[3]?).map (·.type) = some 81 := by kernel_rfl
theorem star : "*" ++ "errors.errorString" = "*errors.errorString" := by decide
theorem rowErr (u : TypeId) (h : Tryz.prog.typeName? 3 u = some "*errors.errorString") : u = 143 :=
  typeName_ptr_named (nm := "errors.errorString") (by rw [star]; kernel_rfl) (by kernel_rfl) (by decide) u (by rw [star]; exact h)
/-- A world in which the listed variables hold what the rows list. -/
theorem laid_metR (os : Os) (args : Array Value) : laidMetH Tryz.prog listsR ((World.laidAll Tryz.prog os listsR).forCall (fun _ _ => 0) ⟨#[], args, []⟩).memory := by
  rw [MakeChecks.laidMetH_plain _ _ _ (by kernel_rfl)]
  exact laidMet_laidAll _ (by kernel_rfl) (by kernel_rfl)
theorem row_maxl : ∃ zero t, ((begin Tryz.prog (fun _ _ => 0) default).world.heap[2]?).bind Obj.row? = some (zero, t) ∧ zero.size = 1 ∧ t = 3 := ⟨#[.int .i64 0], 3, by kernel_rfl, rfl, rfl⟩
theorem maxl_lt : 2 < Tryz.prog.globals.size := of_decide_eq_true (by kernel_rfl)
theorem env_ofR {W : World} (h : laidMet Tryz.prog listsR W) (hsh : W.ShapedOpen Tryz.prog) : EnvR W := by
  have h2 := h.tail.tail
  have e1 : (Rows.laid_internal_strconv_uint64pow10 : DataW Unit) = Lib.tabData .u64 Lib.pow10Tab := by kernel_rfl
  have e2 : (Rows.laid_quitrent_civil_lengths : DataW Unit) = Lib.tabData .i64 lenL := by kernel_rfl
  rw [e1, e2] at h2
  have k1 := Lib.tabIs_of_head gPow tPow Tryz.underlying109 Tryz.underlying53 (by kernel_rfl) (by kernel_rfl) h2
  obtain ⟨a0, s0, hv0, -, -, -⟩ := laid_sentinel h2.tail.tail gRan tRan Tryz.underlying81 rowErr Tryz.underlying143 Tryz.underlying145 rfl rfl Tryz.underlying9 (by kernel_rfl) (by kernel_rfl)
  obtain ⟨a1, s1, hv1, -, -, -⟩ := laid_sentinel h2.tail.tail.tail gSyn tSyn Tryz.underlying81 rowErr Tryz.underlying143 Tryz.underlying145 rfl rfl Tryz.underlying9 (by kernel_rfl) (by kernel_rfl)
  have k2 := Lib.tabIs_of_head gLen tLen Tryz.underlying73 Tryz.underlying3 (by kernel_rfl) (by kernel_rfl) h2.tail.tail.tail.tail
  refine ⟨⟨fun i hi => k2.cell gLen i hi, k1, ⟨_, _, by have h0 := World.var?_cell gSyn hv1 0; simpa using h0⟩, ⟨_, _, by have h0 := World.var?_cell gRan hv0 0; simpa using h0⟩⟩, ?_⟩
  obtain ⟨zero, t, r1, r2, r3⟩ := row_maxl
  subst r3
  exact Go.Proofs.cell_of_shapedOpen_int hsh maxl_lt r1 r2 (by kernel_rfl) (by kernel_rfl) Tryz.underlying3
end Go.Proofs.YtmppkhjjlgngkaaGreatDoor
