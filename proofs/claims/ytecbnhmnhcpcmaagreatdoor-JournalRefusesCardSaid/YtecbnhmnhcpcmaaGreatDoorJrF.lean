/- The walk of JournalRefuses as its row wants it. -/
import Derived.Test.YtecbnhmnhcpcmaaGreatDoorJrE
import Derived.Test.YtecbnhmnhcpcmaaGreatDoorJoV
namespace Go.Proofs.YtecbnhmnhcpcmaaGreatDoor
open Go.RowKit
theorem refuses_law (lv : Value) (L : List Ac) (x : Ac) (w : World) (hE : EnvA w) (hl : RowsIn w lv 3 (L.map Ac.cells)) (ho : ∀ a ∈ L, a.ok w) (hx : x.ok w) :
    Calls Tryz.prog 4 #[lv, .agg #[.int .i64 x.t, .int .u32 x.ten, x.pv]] w fun e w' => e = .returned (.bool true) ∧ Below w.heap.size w w' := by
  obtain ⟨t, ten, pv, ps⟩ := x
  obtain ⟨tn, rfl⟩ : ∃ tn : Nat, ten = tn := ⟨ten.toNat, by have := hx.2.1.1; dsimp only at this; omega⟩
  obtain ⟨pa, pc, e⟩ := pt_form hx.1
  dsimp only at e
  subst e
  exact refuses_any lv L t tn pa pc ps w hE hl ho hx
end Go.Proofs.YtecbnhmnhcpcmaaGreatDoor
