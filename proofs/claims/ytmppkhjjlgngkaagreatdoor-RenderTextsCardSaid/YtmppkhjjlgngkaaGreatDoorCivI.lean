/- The walks of the calendar's laws CivilBack and CivilKnown. -/
import Derived.Test.YtmppkhjjlgngkaaGreatDoorCivH
namespace Go.Proofs.YtmppkhjjlgngkaaGreatDoor
open Go.RowKit Civ
set_option linter.unusedVariables false
set_option linter.unusedSimpArgs false
theorem parse_txt {y m d : Int} (w : World) (hE : Env w) (hv : Vld y m d) : Calls Tryz.prog 51 #[.string (txtB y m d)] w fun e w' => e = .returned (.tuple #[.agg #[.int .i64 y, .int .i64 m, .int .i64 d], .int .i64 0]) ∧ Below w.heap.size w w' := by
  refine (parse_any _ w hE).mono ?_
  rintro e w' ⟨hb, h⟩
  have ht : (txtB y m d).data.toList = txtL y m d := by rw [txtB, if_pos (vldB_t.2 hv)]
  rcases h with ⟨y', m', d', hv', hn, he⟩ | ⟨hn, _⟩
  · obtain ⟨rfl, rfl, rfl⟩ := txtL_inj hv' hv (hn.symm.trans ht)
    exact ⟨he, hb⟩
  · exact absurd ht (hn y m d hv)
/-- the second half of CivilBack: from 'x, h := civil.Of(day)' on: the two first statements have left a world below which nothing has turned -/
def Fine (w : World) (e : Ending) (w' : World) : Prop := e = .returned (.bool true) ∧ Below w.heap.size w w'
end Go.Proofs.YtmppkhjjlgngkaaGreatDoor
