/- What a tied row's listed variables give the walks of quota: strconv's table of powers. -/
import Derived.Test.YtbjofejloeppkaaDoorRows
import Derived.Test.YtbjofejloeppkaaDoorAcA
import Derived.ProofKit
import Derived.LaidMore
import Derived.OpenShut
import Derived.Stop.Joined
import Derived.Stop.LaidErr
import Derived.Lib.LaidTab
import Derived.ChangeSame
namespace Go.Proofs.YtbjofejloeppkaaDoor
open Go.RowKit Go.WideShapes Go.ChangeShapes
set_option maxRecDepth 100000
/-- what the rows list -/
def listsQ : List (String × DataW Unit) := [("math/bits.deBruijn32tab", Rows.laid_math_bits_deBruijn32tab), ("math/bits.deBruijn64tab", Rows.laid_math_bits_deBruijn64tab), ("internal/strconv.uint64pow10", Rows.laid_internal_strconv_uint64pow10)]
theorem ownk : ownKnob Tryd.prog.godebug = none := by kernel_rfl
theorem gPow : Tryd.prog.globalNamed "internal/strconv.uint64pow10" = some 0 := by kernel_rfl
theorem tPow : (Tryd.prog.globals[0]?).map (·.type) = some 69 := by kernel_rfl
/-- The start-up's own heap meets what the rows list. -/
theorem door_metQ (os : Os) (args : Array Value) : laidMetH Tryd.prog listsQ ((World.doorLaid Tryd.prog 400 os).forCall (fun _ _ => 0) ⟨#[], args, []⟩).memory :=
  laidMetH_of_parts3 (fuel := 8) (laidMet_of_run' 8 (by kernel_rfl) (by kernel_rfl)) (by kernel_rfl) (by kernel_rfl)
theorem env_ofQ {W : World} (h : laidMet Tryd.prog listsQ W) : Pow W := by
  have h2 := h.tail.tail
  have e1 : (Rows.laid_internal_strconv_uint64pow10 : DataW Unit) = Lib.tabData .u64 Lib.pow10Tab := by kernel_rfl
  rw [e1] at h2
  exact Lib.tabIs_of_head gPow tPow Tryd.underlying69 Tryd.underlying60 (by kernel_rfl) (by kernel_rfl) h2
end Go.Proofs.YtbjofejloeppkaaDoor
