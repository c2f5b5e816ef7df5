/- The walk of the reference's number. -/
import Derived.Test.YtecbnhmnhcpcmaaDoorAcD
namespace Go.Proofs.YtecbnhmnhcpcmaaDoor
open Go.RowKit Go.Shelf Acct
set_option linter.unusedVariables false
set_option linter.unusedSimpArgs false
def NumEndR (s : ByteArray) (w : World) (e : Ending) (w' : World) : Prop := w = w' ∧ ∃ n b, NumR s.data.toList n b ∧ e = .returned (.tuple #[.int .i64 n, .bool b])
theorem head_is (s : ByteArray) (h0 : 0 < s.size) : s.data.toList = s[0] :: s.data.toList.drop 1 := by
  have h := size_list s
  rw [← List.drop_zero (l := s.data.toList), List.drop_eq_getElem_cons (by omega)]
  rfl
theorem w64_in {n : Int} (h : inInt n) : wrap64 n = n := IntWalk.wrap64_in n ⟨h.1, h.2⟩
theorem w64_bd (n : Int) : inInt (wrap64 n) := by unfold wrap64 inInt; omega
end Go.Proofs.YtecbnhmnhcpcmaaDoor
