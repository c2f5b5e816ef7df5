/- The walk of slices.Delete at letters, of one element. -/
import Derived.Test.YtecbnhmnhcpcmaaGreatDoorNeA
namespace Go.Proofs.YtecbnhmnhcpcmaaGreatDoor
open Go.RowKit
set_option linter.unusedVariables false
set_option linter.unusedSimpArgs false
theorem del_list (l : List Value) (n k : Nat) (hk : k < n) (hn : n * 3 ≤ l.length) : ((l.take (k * 3) ++ ((l.take (n * 3)).drop ((k + 1) * 3) ++ l.drop (k * 3 + ((l.take (n * 3)).drop ((k + 1) * 3)).length)))).take ((n - 1) * 3) = l.take (k * 3) ++ (l.take (n * 3)).drop ((k + 1) * 3) := by
  rw [← List.append_assoc, List.take_left' (by simp; omega)]
end Go.Proofs.YtecbnhmnhcpcmaaGreatDoor
