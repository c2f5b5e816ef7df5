/- The walk of JournalFull as its row wants it. -/
import Derived.Test.YtecbnhmnhcpcmaaGreatDoorJrC
import Derived.Test.YtecbnhmnhcpcmaaGreatDoorJoV
namespace Go.Proofs.YtecbnhmnhcpcmaaGreatDoor
open Go.RowKit
theorem full_law (lv : Value) (L : List Ac) (b : Int) (w : World) (hE : EnvA w) (hl : RowsIn w lv 3 (L.map Ac.cells)) (ho : ∀ a ∈ L, a.ok w) (hb : 0 ≤ b ∧ b ≤ 255) :
    Calls Tryz.prog 5 #[lv, .int .u8 b] w fun e w' => e = .returned (.bool true) ∧ Below w.heap.size w w' := by
  obtain ⟨b8, rfl⟩ : ∃ b8 : Nat, b = b8 := ⟨b.toNat, by omega⟩
  exact full_any lv L b8 w hE hl ho (by omega)
end Go.Proofs.YtecbnhmnhcpcmaaGreatDoor
