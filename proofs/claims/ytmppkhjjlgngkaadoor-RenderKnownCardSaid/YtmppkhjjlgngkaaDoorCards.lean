/-
  DERIVED. GIVEN WITH THE SEED: THE CARDS: each row of YtmppkhjjlgngkaaDoorRows.lean that lists a variable, with what it lists TIED to the program's text (the seventh form; the later family's looks); each row that meets fmt, with fmt's text TOLD by the authors' own Lean function (tested against real Go, not proved from fmt's source: count such statements apart). THE CARD IS WHAT COUNTS. Prove the row's statement (the work); the ties are given (YtmppkhjjlgngkaaDoorTie.lean); close each card by the builder's one call (the guide's Derived/Test/ToyasCard.lean, 'card_holds'). Laid BY PROGRAM, IN A SANDBOX (cutbox-door.mjs). By AI agents, Wed Nov 11 2026. No macro, syntax, notation, axiom, sorry.
-/
import Derived.Test.YtmppkhjjlgngkaaDoorRows
import GoSem.ClaimSeven
namespace Go.Proofs.YtmppkhjjlgngkaaDoor
namespace Rows

/-- THE TIED CARD OF 'quitrentlaw24.RenderBack'. -/
def renderBackCard : Claim7 := { stood := { row := renderBackRow, standIns := [], harness := (true, "bf7af4d4a69241ffa2a734d990b0b0d6a4bdfe9f3e940b2f6824756f74037d15"), looks := true }, kinds := [], alts := [], laidByText := true, laidKinds := [.data, .data, .data, .data, .sentinel, .sentinel, .data, .pinned], laidTests := true, laidLooks := .later }
def RenderBackCardSaid : Prop := Claim7.holds Tryd.pinned (.plain (OpenSpec.ofChange renderBackSpec)) renderBackCard

/-- THE TIED CARD OF 'quitrentlaw24.RenderReads'. -/
def renderReadsCard : Claim7 := { stood := { row := renderReadsRow, standIns := [], harness := (true, "bf7af4d4a69241ffa2a734d990b0b0d6a4bdfe9f3e940b2f6824756f74037d15"), looks := true }, kinds := [], alts := [], laidByText := true, laidKinds := [.data, .data, .data, .data, .sentinel, .sentinel, .data, .pinned], laidTests := true, laidLooks := .later }
def RenderReadsCardSaid : Prop := Claim7.holds Tryd.pinned (.plain (OpenSpec.ofChange renderReadsSpec)) renderReadsCard

/-- THE TIED CARD OF 'quitrentlaw24.RenderApart'. -/
def renderApartCard : Claim7 := { stood := { row := renderApartRow, standIns := [], harness := (true, "bf7af4d4a69241ffa2a734d990b0b0d6a4bdfe9f3e940b2f6824756f74037d15"), looks := true }, kinds := [], alts := [], laidByText := true, laidKinds := [.data, .data, .data, .data, .sentinel, .sentinel, .data, .pinned], laidTests := true, laidLooks := .later }
def RenderApartCardSaid : Prop := Claim7.holds Tryd.pinned (.plain (OpenSpec.ofChange renderApartSpec)) renderApartCard

/-- THE TIED CARD OF 'quitrentlaw24.RenderKnown'. -/
def renderKnownCard : Claim7 := { stood := { row := renderKnownRow, standIns := [], harness := (true, "bf7af4d4a69241ffa2a734d990b0b0d6a4bdfe9f3e940b2f6824756f74037d15"), looks := true }, kinds := [], alts := [], laidByText := true, laidKinds := [.data, .data, .data, .data, .sentinel, .sentinel, .data, .pinned], laidTests := true, laidLooks := .later }
def RenderKnownCardSaid : Prop := Claim7.holds Tryd.pinned (.plain (OpenSpec.ofChange renderKnownSpec)) renderKnownCard

/-- THE TIED CARD OF 'quitrentlaw24.RenderLines'. -/
def renderLinesCard : Claim7 := { stood := { row := renderLinesRow, standIns := [], harness := (true, "bf7af4d4a69241ffa2a734d990b0b0d6a4bdfe9f3e940b2f6824756f74037d15"), looks := true }, kinds := [], alts := [], laidByText := true, laidKinds := [.data, .data, .data, .data, .sentinel, .sentinel, .data, .pinned], laidTests := true, laidLooks := .later }
def RenderLinesCardSaid : Prop := Claim7.holds Tryd.pinned (.plain (OpenSpec.ofChange renderLinesSpec)) renderLinesCard

/-- THE SECOND FORM's CARD OF 'quitrentlaw24.RenderBack'. -/
def renderBackUptoCard : Claim7 := { stood := { row := renderBackUptoRow, standIns := [], harness := (true, "bf7af4d4a69241ffa2a734d990b0b0d6a4bdfe9f3e940b2f6824756f74037d15"), looks := true }, kinds := [], alts := [], laidByText := true, laidKinds := [.data, .data, .data, .data, .sentinel, .sentinel, .data, .pinned], laidTests := true, laidLooks := .later }
def RenderBackUptoCardSaid : Prop := Claim7.holds Tryd.pinned (.plain (OpenSpec.upto renderBackSpec)) renderBackUptoCard

/-- THE SECOND FORM's CARD OF 'quitrentlaw24.RenderReads'. -/
def renderReadsUptoCard : Claim7 := { stood := { row := renderReadsUptoRow, standIns := [], harness := (true, "bf7af4d4a69241ffa2a734d990b0b0d6a4bdfe9f3e940b2f6824756f74037d15"), looks := true }, kinds := [], alts := [], laidByText := true, laidKinds := [.data, .data, .data, .data, .sentinel, .sentinel, .data, .pinned], laidTests := true, laidLooks := .later }
def RenderReadsUptoCardSaid : Prop := Claim7.holds Tryd.pinned (.plain (OpenSpec.upto renderReadsSpec)) renderReadsUptoCard

/-- THE SECOND FORM's CARD OF 'quitrentlaw24.RenderApart'. -/
def renderApartUptoCard : Claim7 := { stood := { row := renderApartUptoRow, standIns := [], harness := (true, "bf7af4d4a69241ffa2a734d990b0b0d6a4bdfe9f3e940b2f6824756f74037d15"), looks := true }, kinds := [], alts := [], laidByText := true, laidKinds := [.data, .data, .data, .data, .sentinel, .sentinel, .data, .pinned], laidTests := true, laidLooks := .later }
def RenderApartUptoCardSaid : Prop := Claim7.holds Tryd.pinned (.plain (OpenSpec.upto renderApartSpec)) renderApartUptoCard

/-- THE SECOND FORM's CARD OF 'quitrentlaw24.RenderKnown'. -/
def renderKnownUptoCard : Claim7 := { stood := { row := renderKnownUptoRow, standIns := [], harness := (true, "bf7af4d4a69241ffa2a734d990b0b0d6a4bdfe9f3e940b2f6824756f74037d15"), looks := true }, kinds := [], alts := [], laidByText := true, laidKinds := [.data, .data, .data, .data, .sentinel, .sentinel, .data, .pinned], laidTests := true, laidLooks := .later }
def RenderKnownUptoCardSaid : Prop := Claim7.holds Tryd.pinned (.plain (OpenSpec.upto renderKnownSpec)) renderKnownUptoCard

/-- THE SECOND FORM's CARD OF 'quitrentlaw24.RenderLines'. -/
def renderLinesUptoCard : Claim7 := { stood := { row := renderLinesUptoRow, standIns := [], harness := (true, "bf7af4d4a69241ffa2a734d990b0b0d6a4bdfe9f3e940b2f6824756f74037d15"), looks := true }, kinds := [], alts := [], laidByText := true, laidKinds := [.data, .data, .data, .data, .sentinel, .sentinel, .data, .pinned], laidTests := true, laidLooks := .later }
def RenderLinesUptoCardSaid : Prop := Claim7.holds Tryd.pinned (.plain (OpenSpec.upto renderLinesSpec)) renderLinesUptoCard
end Rows
end Go.Proofs.YtmppkhjjlgngkaaDoor
