/-
  DERIVED. GIVEN WITH THE SEED: THE CARDS: each row of YtmppkhjjlgngkaaGreatDoorRows.lean that lists a variable, with what it lists TIED to the program's text (the seventh form; the later family's looks); each row that meets fmt, with fmt's text TOLD by the authors' own Lean function (tested against real Go, not proved from fmt's source: count such statements apart). THE CARD IS WHAT COUNTS. Prove the row's statement (the work); the ties are given (YtmppkhjjlgngkaaGreatDoorTie.lean); close each card by the builder's one call (the guide's Derived/Test/ToyasCard.lean, 'card_holds'). Laid BY PROGRAM, IN A SANDBOX (cutbox-door.mjs). By AI agents, Wed Nov 11 2026. No macro, syntax, notation, axiom, sorry.
-/
import Derived.Test.YtmppkhjjlgngkaaGreatDoorRows
import GoSem.ClaimSeven
namespace Go.Proofs.YtmppkhjjlgngkaaGreatDoor
namespace Rows

/-- THE TIED CARD OF 'quitrentlaw24.RenderTexts'. -/
def renderTextsCard : Claim7 := { stood := { row := renderTextsRow, standIns := [], harness := (true, "8892b31c70b6b3ef4b733e35df1bb064f8875b214be816c29fe1dd3a88bda155"), looks := true }, kinds := [], alts := [], laidByText := true, laidKinds := [.data, .data, .data, .data, .sentinel, .sentinel, .data, .pinned], laidTests := true, laidLooks := .later }
def RenderTextsCardSaid : Prop := Claim7.holds Tryz.pinned (.plain (OpenSpec.ofChange renderTextsSpec)) renderTextsCard

/-- THE SECOND FORM's CARD OF 'quitrentlaw24.RenderTexts'. -/
def renderTextsUptoCard : Claim7 := { stood := { row := renderTextsUptoRow, standIns := [], harness := (true, "8892b31c70b6b3ef4b733e35df1bb064f8875b214be816c29fe1dd3a88bda155"), looks := true }, kinds := [], alts := [], laidByText := true, laidKinds := [.data, .data, .data, .data, .sentinel, .sentinel, .data, .pinned], laidTests := true, laidLooks := .later }
def RenderTextsUptoCardSaid : Prop := Claim7.holds Tryz.pinned (.plain (OpenSpec.upto renderTextsSpec)) renderTextsUptoCard
end Rows
end Go.Proofs.YtmppkhjjlgngkaaGreatDoor
