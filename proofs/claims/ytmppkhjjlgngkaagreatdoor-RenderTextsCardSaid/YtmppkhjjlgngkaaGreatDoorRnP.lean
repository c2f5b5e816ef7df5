/- The walks of RenderApart, RenderReads, RenderBack. -/
import Derived.Test.YtmppkhjjlgngkaaGreatDoorRnO
namespace Go.Proofs.YtmppkhjjlgngkaaGreatDoor
open Go.RowKit Civ Ren Go.Shelf
set_option linter.unusedVariables false
set_option linter.unusedSimpArgs false
theorem ln_form {w : World} {lv : Value} {L : List Ren.Ln} (h : RowsIn w lv 5 (L.map Ren.Ln.cells)) : ∃ a c, lv = .slice a L.length c := by
  obtain ⟨a, c, e, -, -⟩ := rows_form h
  rw [List.length_map] at e
  exact ⟨a, c, e⟩
theorem ba_ne {a b : List UInt8} (h : a ≠ b) : (⟨a.toArray⟩ : ByteArray) ≠ ⟨b.toArray⟩ := fun e => h (by simpa using congrArg (fun x : ByteArray => x.data.toList) e)
theorem goesR_tail (w w1 : World) (hE : EnvR w) (hb : Below w.heap.size w w1) : Calls Tryz.prog 6 #[] w1 fun e w' => e = .returned (.bool true) ∧ Below w.heap.size w w' :=
  (goesR_any w1 (hE.below hb)).mono fun _ _ ⟨h, b⟩ => ⟨h, onward b hb⟩
end Go.Proofs.YtmppkhjjlgngkaaGreatDoor
