/-
  DERIVED. GIVEN WITH THE SEED: THE CARDS: each row of YtcaihncnmjegoaaGreatDoorRows.lean that lists a variable, with what it lists TIED to the program's text (the seventh form; the later family's looks); each row that meets fmt, with fmt's text TOLD by the authors' own Lean function (tested against real Go, not proved from fmt's source: count such statements apart). THE CARD IS WHAT COUNTS. Prove the row's statement (the work); the ties are given (YtcaihncnmjegoaaGreatDoorTie.lean); close each card by the builder's one call (the guide's Derived/Test/ToyasCard.lean, 'card_holds'). Laid BY PROGRAM, IN A SANDBOX (cutbox-door.mjs). By AI agents, Wed Nov 11 2026. No macro, syntax, notation, axiom, sorry.
-/
import Derived.Test.YtcaihncnmjegoaaGreatDoorRows
import GoSem.ClaimSeven
namespace Go.Proofs.YtcaihncnmjegoaaGreatDoor
namespace Rows

/-- THE TIED CARD OF 'quitrentlaw19.PacksDraw'. -/
def packsDrawCard : Claim7 := { stood := { row := packsDrawRow, standIns := [], harness := (true, "bb1981f33707a0bf212f6f34e47eb6bee5b1cb27215023e2abcb0b06de494828"), looks := true }, kinds := [], alts := [], laidByText := true, laidKinds := [.data, .data, .data, .data, .sentinel, .sentinel, .pinned], laidTests := true, laidLooks := .later }
def PacksDrawCardSaid : Prop := Claim7.holds Tryz.pinned (.plain (OpenSpec.ofChange packsDrawSpec)) packsDrawCard

/-- THE TIED CARD OF 'quitrentlaw19.PacksOrder'. -/
def packsOrderCard : Claim7 := { stood := { row := packsOrderRow, standIns := [], harness := (true, "bb1981f33707a0bf212f6f34e47eb6bee5b1cb27215023e2abcb0b06de494828"), looks := true }, kinds := [], alts := [], laidByText := true, laidKinds := [.data, .data, .data, .data, .sentinel, .sentinel, .pinned], laidTests := true, laidLooks := .later }
def PacksOrderCardSaid : Prop := Claim7.holds Tryz.pinned (.plain (OpenSpec.ofChange packsOrderSpec)) packsOrderCard

/-- THE TIED CARD OF 'quitrentlaw19.PacksApart'. -/
def packsApartCard : Claim7 := { stood := { row := packsApartRow, standIns := [], harness := (true, "bb1981f33707a0bf212f6f34e47eb6bee5b1cb27215023e2abcb0b06de494828"), looks := true }, kinds := [], alts := [], laidByText := true, laidKinds := [.data, .data, .data, .data, .sentinel, .sentinel, .pinned], laidTests := true, laidLooks := .later }
def PacksApartCardSaid : Prop := Claim7.holds Tryz.pinned (.plain (OpenSpec.ofChange packsApartSpec)) packsApartCard

/-- THE TIED CARD OF 'quitrentlaw19.PacksKnown'. -/
def packsKnownCard : Claim7 := { stood := { row := packsKnownRow, standIns := [], harness := (true, "bb1981f33707a0bf212f6f34e47eb6bee5b1cb27215023e2abcb0b06de494828"), looks := true }, kinds := [], alts := [], laidByText := true, laidKinds := [.data, .data, .data, .data, .sentinel, .sentinel, .pinned], laidTests := true, laidLooks := .later }
def PacksKnownCardSaid : Prop := Claim7.holds Tryz.pinned (.plain (OpenSpec.ofChange packsKnownSpec)) packsKnownCard

/-- THE TIED CARD OF 'quitrentlaw19.PacksAll'. -/
def packsAllCard : Claim7 := { stood := { row := packsAllRow, standIns := [], harness := (true, "bb1981f33707a0bf212f6f34e47eb6bee5b1cb27215023e2abcb0b06de494828"), looks := true }, kinds := [], alts := [], laidByText := true, laidKinds := [.data, .data, .data, .data, .sentinel, .sentinel, .pinned], laidTests := true, laidLooks := .later }
def PacksAllCardSaid : Prop := Claim7.holds Tryz.pinned (.plain (OpenSpec.ofChange packsAllSpec)) packsAllCard

/-- THE SECOND FORM's CARD OF 'quitrentlaw19.PacksDraw'. -/
def packsDrawUptoCard : Claim7 := { stood := { row := packsDrawUptoRow, standIns := [], harness := (true, "bb1981f33707a0bf212f6f34e47eb6bee5b1cb27215023e2abcb0b06de494828"), looks := true }, kinds := [], alts := [], laidByText := true, laidKinds := [.data, .data, .data, .data, .sentinel, .sentinel, .pinned], laidTests := true, laidLooks := .later }
def PacksDrawUptoCardSaid : Prop := Claim7.holds Tryz.pinned (.plain (OpenSpec.upto packsDrawSpec)) packsDrawUptoCard

/-- THE SECOND FORM's CARD OF 'quitrentlaw19.PacksOrder'. -/
def packsOrderUptoCard : Claim7 := { stood := { row := packsOrderUptoRow, standIns := [], harness := (true, "bb1981f33707a0bf212f6f34e47eb6bee5b1cb27215023e2abcb0b06de494828"), looks := true }, kinds := [], alts := [], laidByText := true, laidKinds := [.data, .data, .data, .data, .sentinel, .sentinel, .pinned], laidTests := true, laidLooks := .later }
def PacksOrderUptoCardSaid : Prop := Claim7.holds Tryz.pinned (.plain (OpenSpec.upto packsOrderSpec)) packsOrderUptoCard

/-- THE SECOND FORM's CARD OF 'quitrentlaw19.PacksApart'. -/
def packsApartUptoCard : Claim7 := { stood := { row := packsApartUptoRow, standIns := [], harness := (true, "bb1981f33707a0bf212f6f34e47eb6bee5b1cb27215023e2abcb0b06de494828"), looks := true }, kinds := [], alts := [], laidByText := true, laidKinds := [.data, .data, .data, .data, .sentinel, .sentinel, .pinned], laidTests := true, laidLooks := .later }
def PacksApartUptoCardSaid : Prop := Claim7.holds Tryz.pinned (.plain (OpenSpec.upto packsApartSpec)) packsApartUptoCard

/-- THE SECOND FORM's CARD OF 'quitrentlaw19.PacksKnown'. -/
def packsKnownUptoCard : Claim7 := { stood := { row := packsKnownUptoRow, standIns := [], harness := (true, "bb1981f33707a0bf212f6f34e47eb6bee5b1cb27215023e2abcb0b06de494828"), looks := true }, kinds := [], alts := [], laidByText := true, laidKinds := [.data, .data, .data, .data, .sentinel, .sentinel, .pinned], laidTests := true, laidLooks := .later }
def PacksKnownUptoCardSaid : Prop := Claim7.holds Tryz.pinned (.plain (OpenSpec.upto packsKnownSpec)) packsKnownUptoCard

/-- THE SECOND FORM's CARD OF 'quitrentlaw19.PacksAll'. -/
def packsAllUptoCard : Claim7 := { stood := { row := packsAllUptoRow, standIns := [], harness := (true, "bb1981f33707a0bf212f6f34e47eb6bee5b1cb27215023e2abcb0b06de494828"), looks := true }, kinds := [], alts := [], laidByText := true, laidKinds := [.data, .data, .data, .data, .sentinel, .sentinel, .pinned], laidTests := true, laidLooks := .later }
def PacksAllUptoCardSaid : Prop := Claim7.holds Tryz.pinned (.plain (OpenSpec.upto packsAllSpec)) packsAllUptoCard
end Rows
end Go.Proofs.YtcaihncnmjegoaaGreatDoor
