/- The walk of JournalOrder as its row wants it. -/
import Derived.Test.YtecbnhmnhcpcmaaDoorJoB
import Derived.Test.YtecbnhmnhcpcmaaDoorJoV
namespace Go.Proofs.YtecbnhmnhcpcmaaDoor
open Go.RowKit
theorem order_law (lv : Value) (L : List Ac) (x : Ac) (b : Int) (w : World) (hE : EnvA w) (hl : RowsIn w lv 3 (L.map Ac.cells)) (ho : ∀ a ∈ L, a.ok w) (hx : x.ok w) (hb : 0 ≤ b ∧ b ≤ 255) :
    Calls Tryd.prog 3 #[lv, .agg #[.int .i64 x.t, .int .u32 x.ten, x.pv], .int .u8 b] w fun e w' => e = .returned (.bool true) ∧ Below w.heap.size w w' := by
  obtain ⟨t, ten, pv, ps⟩ := x
  obtain ⟨tn, rfl⟩ : ∃ tn : Nat, ten = tn := ⟨ten.toNat, by have := hx.2.1.1; dsimp only at this; omega⟩
  obtain ⟨b8, rfl⟩ : ∃ b8 : Nat, b = b8 := ⟨b.toNat, by omega⟩
  obtain ⟨pa, pc, e⟩ := pt_form hx.1
  dsimp only at e
  subst e
  exact order_any lv L t tn pa pc ps b8 w hE hl ho hx (by omega)
end Go.Proofs.YtecbnhmnhcpcmaaDoor
