/-
  DERIVED. GIVEN WITH THE SEED: THE CARDS: each row of YtblmejdgdcihbaaDoorRows.lean that lists a variable, with what it lists TIED to the program's text (the seventh form; the later family's looks); each row that meets fmt, with fmt's text TOLD by the authors' own Lean function (tested against real Go, not proved from fmt's source: count such statements apart). THE CARD IS WHAT COUNTS. Prove the row's statement (the work); the ties are given (YtblmejdgdcihbaaDoorTie.lean); close each card by the builder's one call (the guide's Derived/Test/ToyasCard.lean, 'card_holds'). Laid BY PROGRAM, IN A SANDBOX (cutbox-door.mjs). By AI agents, Wed Nov 11 2026. No macro, syntax, notation, axiom, sorry.
-/
import Derived.Test.YtblmejdgdcihbaaDoorRows
import GoSem.ClaimSeven
namespace Go.Proofs.YtblmejdgdcihbaaDoor
namespace Rows

/-- THE TIED CARD OF 'quitrentlaw15.AcctNames'. -/
def acctNamesCard : Claim7 := { stood := { row := acctNamesRow, standIns := [], harness := (true, "e77d5416a9df8c3a66e861d7b2dab2bdef11f9226aea0a399ebc7b12193fc2be"), looks := true }, kinds := [], alts := [], laidByText := true, laidKinds := [.data, .data, .data, .data, .sentinel, .sentinel, .pinned], laidTests := true, laidLooks := .later }
def AcctNamesCardSaid : Prop := Claim7.holds Tryd.pinned (.plain (OpenSpec.ofChange acctNamesSpec)) acctNamesCard

/-- THE TIED CARD OF 'quitrentlaw15.AcctParses'. -/
def acctParsesCard : Claim7 := { stood := { row := acctParsesRow, standIns := [], harness := (true, "e77d5416a9df8c3a66e861d7b2dab2bdef11f9226aea0a399ebc7b12193fc2be"), looks := true }, kinds := [], alts := [], laidByText := true, laidKinds := [.data, .data, .data, .data, .sentinel, .sentinel, .pinned], laidTests := true, laidLooks := .later }
def AcctParsesCardSaid : Prop := Claim7.holds Tryd.pinned (.plain (OpenSpec.ofChange acctParsesSpec)) acctParsesCard

/-- THE TIED CARD OF 'quitrentlaw15.AcctBack'. -/
def acctBackCard : Claim7 := { stood := { row := acctBackRow, standIns := [], harness := (true, "e77d5416a9df8c3a66e861d7b2dab2bdef11f9226aea0a399ebc7b12193fc2be"), looks := true }, kinds := [], alts := [], laidByText := true, laidKinds := [.data, .data, .data, .data, .sentinel, .sentinel, .pinned], laidTests := true, laidLooks := .later }
def AcctBackCardSaid : Prop := Claim7.holds Tryd.pinned (.plain (OpenSpec.ofChange acctBackSpec)) acctBackCard

/-- THE TIED CARD OF 'quitrentlaw15.AcctApart'. -/
def acctApartCard : Claim7 := { stood := { row := acctApartRow, standIns := [], harness := (true, "e77d5416a9df8c3a66e861d7b2dab2bdef11f9226aea0a399ebc7b12193fc2be"), looks := true }, kinds := [], alts := [], laidByText := true, laidKinds := [.data, .data, .data, .data, .sentinel, .sentinel, .pinned], laidTests := true, laidLooks := .later }
def AcctApartCardSaid : Prop := Claim7.holds Tryd.pinned (.plain (OpenSpec.ofChange acctApartSpec)) acctApartCard

/-- THE TIED CARD OF 'quitrentlaw15.AcctLong'. -/
def acctLongCard : Claim7 := { stood := { row := acctLongRow, standIns := [], harness := (true, "e77d5416a9df8c3a66e861d7b2dab2bdef11f9226aea0a399ebc7b12193fc2be"), looks := true }, kinds := [], alts := [], laidByText := true, laidKinds := [.data, .data, .data, .data, .sentinel, .sentinel, .pinned], laidTests := true, laidLooks := .later }
def AcctLongCardSaid : Prop := Claim7.holds Tryd.pinned (.plain (OpenSpec.ofChange acctLongSpec)) acctLongCard

/-- THE TIED CARD OF 'quitrentlaw15.AcctKnown'. -/
def acctKnownCard : Claim7 := { stood := { row := acctKnownRow, standIns := [], harness := (true, "e77d5416a9df8c3a66e861d7b2dab2bdef11f9226aea0a399ebc7b12193fc2be"), looks := true }, kinds := [], alts := [], laidByText := true, laidKinds := [.data, .data, .data, .data, .sentinel, .sentinel, .pinned], laidTests := true, laidLooks := .later }
def AcctKnownCardSaid : Prop := Claim7.holds Tryd.pinned (.plain (OpenSpec.ofChange acctKnownSpec)) acctKnownCard

/-- THE TIED CARD OF 'quitrentlaw24.RenderBack'. -/
def renderBackCard : Claim7 := { stood := { row := renderBackRow, standIns := [], harness := (true, "e77d5416a9df8c3a66e861d7b2dab2bdef11f9226aea0a399ebc7b12193fc2be"), looks := true }, kinds := [], alts := [], laidByText := true, laidKinds := [.data, .data, .data, .data, .sentinel, .sentinel, .data, .pinned], laidTests := true, laidLooks := .later }
def RenderBackCardSaid : Prop := Claim7.holds Tryd.pinned (.plain (OpenSpec.ofChange renderBackSpec)) renderBackCard

/-- THE TIED CARD OF 'quitrentlaw24.RenderReads'. -/
def renderReadsCard : Claim7 := { stood := { row := renderReadsRow, standIns := [], harness := (true, "e77d5416a9df8c3a66e861d7b2dab2bdef11f9226aea0a399ebc7b12193fc2be"), looks := true }, kinds := [], alts := [], laidByText := true, laidKinds := [.data, .data, .data, .data, .sentinel, .sentinel, .data, .pinned], laidTests := true, laidLooks := .later }
def RenderReadsCardSaid : Prop := Claim7.holds Tryd.pinned (.plain (OpenSpec.ofChange renderReadsSpec)) renderReadsCard

/-- THE TIED CARD OF 'quitrentlaw24.RenderApart'. -/
def renderApartCard : Claim7 := { stood := { row := renderApartRow, standIns := [], harness := (true, "e77d5416a9df8c3a66e861d7b2dab2bdef11f9226aea0a399ebc7b12193fc2be"), looks := true }, kinds := [], alts := [], laidByText := true, laidKinds := [.data, .data, .data, .data, .sentinel, .sentinel, .data, .pinned], laidTests := true, laidLooks := .later }
def RenderApartCardSaid : Prop := Claim7.holds Tryd.pinned (.plain (OpenSpec.ofChange renderApartSpec)) renderApartCard

/-- THE TIED CARD OF 'quitrentlaw24.RenderKnown'. -/
def renderKnownCard : Claim7 := { stood := { row := renderKnownRow, standIns := [], harness := (true, "e77d5416a9df8c3a66e861d7b2dab2bdef11f9226aea0a399ebc7b12193fc2be"), looks := true }, kinds := [], alts := [], laidByText := true, laidKinds := [.data, .data, .data, .data, .sentinel, .sentinel, .data, .pinned], laidTests := true, laidLooks := .later }
def RenderKnownCardSaid : Prop := Claim7.holds Tryd.pinned (.plain (OpenSpec.ofChange renderKnownSpec)) renderKnownCard

/-- THE TIED CARD OF 'quitrentlaw24.RenderLines'. -/
def renderLinesCard : Claim7 := { stood := { row := renderLinesRow, standIns := [], harness := (true, "e77d5416a9df8c3a66e861d7b2dab2bdef11f9226aea0a399ebc7b12193fc2be"), looks := true }, kinds := [], alts := [], laidByText := true, laidKinds := [.data, .data, .data, .data, .sentinel, .sentinel, .data, .pinned], laidTests := true, laidLooks := .later }
def RenderLinesCardSaid : Prop := Claim7.holds Tryd.pinned (.plain (OpenSpec.ofChange renderLinesSpec)) renderLinesCard

/-- THE SECOND FORM's CARD OF 'quitrentlaw15.AcctNames'. -/
def acctNamesUptoCard : Claim7 := { stood := { row := acctNamesUptoRow, standIns := [], harness := (true, "e77d5416a9df8c3a66e861d7b2dab2bdef11f9226aea0a399ebc7b12193fc2be"), looks := true }, kinds := [], alts := [], laidByText := true, laidKinds := [.data, .data, .data, .data, .sentinel, .sentinel, .pinned], laidTests := true, laidLooks := .later }
def AcctNamesUptoCardSaid : Prop := Claim7.holds Tryd.pinned (.plain (OpenSpec.upto acctNamesSpec)) acctNamesUptoCard

/-- THE SECOND FORM's CARD OF 'quitrentlaw15.AcctParses'. -/
def acctParsesUptoCard : Claim7 := { stood := { row := acctParsesUptoRow, standIns := [], harness := (true, "e77d5416a9df8c3a66e861d7b2dab2bdef11f9226aea0a399ebc7b12193fc2be"), looks := true }, kinds := [], alts := [], laidByText := true, laidKinds := [.data, .data, .data, .data, .sentinel, .sentinel, .pinned], laidTests := true, laidLooks := .later }
def AcctParsesUptoCardSaid : Prop := Claim7.holds Tryd.pinned (.plain (OpenSpec.upto acctParsesSpec)) acctParsesUptoCard

/-- THE SECOND FORM's CARD OF 'quitrentlaw15.AcctBack'. -/
def acctBackUptoCard : Claim7 := { stood := { row := acctBackUptoRow, standIns := [], harness := (true, "e77d5416a9df8c3a66e861d7b2dab2bdef11f9226aea0a399ebc7b12193fc2be"), looks := true }, kinds := [], alts := [], laidByText := true, laidKinds := [.data, .data, .data, .data, .sentinel, .sentinel, .pinned], laidTests := true, laidLooks := .later }
def AcctBackUptoCardSaid : Prop := Claim7.holds Tryd.pinned (.plain (OpenSpec.upto acctBackSpec)) acctBackUptoCard

/-- THE SECOND FORM's CARD OF 'quitrentlaw15.AcctApart'. -/
def acctApartUptoCard : Claim7 := { stood := { row := acctApartUptoRow, standIns := [], harness := (true, "e77d5416a9df8c3a66e861d7b2dab2bdef11f9226aea0a399ebc7b12193fc2be"), looks := true }, kinds := [], alts := [], laidByText := true, laidKinds := [.data, .data, .data, .data, .sentinel, .sentinel, .pinned], laidTests := true, laidLooks := .later }
def AcctApartUptoCardSaid : Prop := Claim7.holds Tryd.pinned (.plain (OpenSpec.upto acctApartSpec)) acctApartUptoCard

/-- THE SECOND FORM's CARD OF 'quitrentlaw15.AcctLong'. -/
def acctLongUptoCard : Claim7 := { stood := { row := acctLongUptoRow, standIns := [], harness := (true, "e77d5416a9df8c3a66e861d7b2dab2bdef11f9226aea0a399ebc7b12193fc2be"), looks := true }, kinds := [], alts := [], laidByText := true, laidKinds := [.data, .data, .data, .data, .sentinel, .sentinel, .pinned], laidTests := true, laidLooks := .later }
def AcctLongUptoCardSaid : Prop := Claim7.holds Tryd.pinned (.plain (OpenSpec.upto acctLongSpec)) acctLongUptoCard

/-- THE SECOND FORM's CARD OF 'quitrentlaw15.AcctKnown'. -/
def acctKnownUptoCard : Claim7 := { stood := { row := acctKnownUptoRow, standIns := [], harness := (true, "e77d5416a9df8c3a66e861d7b2dab2bdef11f9226aea0a399ebc7b12193fc2be"), looks := true }, kinds := [], alts := [], laidByText := true, laidKinds := [.data, .data, .data, .data, .sentinel, .sentinel, .pinned], laidTests := true, laidLooks := .later }
def AcctKnownUptoCardSaid : Prop := Claim7.holds Tryd.pinned (.plain (OpenSpec.upto acctKnownSpec)) acctKnownUptoCard

/-- THE SECOND FORM's CARD OF 'quitrentlaw24.RenderBack'. -/
def renderBackUptoCard : Claim7 := { stood := { row := renderBackUptoRow, standIns := [], harness := (true, "e77d5416a9df8c3a66e861d7b2dab2bdef11f9226aea0a399ebc7b12193fc2be"), looks := true }, kinds := [], alts := [], laidByText := true, laidKinds := [.data, .data, .data, .data, .sentinel, .sentinel, .data, .pinned], laidTests := true, laidLooks := .later }
def RenderBackUptoCardSaid : Prop := Claim7.holds Tryd.pinned (.plain (OpenSpec.upto renderBackSpec)) renderBackUptoCard

/-- THE SECOND FORM's CARD OF 'quitrentlaw24.RenderReads'. -/
def renderReadsUptoCard : Claim7 := { stood := { row := renderReadsUptoRow, standIns := [], harness := (true, "e77d5416a9df8c3a66e861d7b2dab2bdef11f9226aea0a399ebc7b12193fc2be"), looks := true }, kinds := [], alts := [], laidByText := true, laidKinds := [.data, .data, .data, .data, .sentinel, .sentinel, .data, .pinned], laidTests := true, laidLooks := .later }
def RenderReadsUptoCardSaid : Prop := Claim7.holds Tryd.pinned (.plain (OpenSpec.upto renderReadsSpec)) renderReadsUptoCard

/-- THE SECOND FORM's CARD OF 'quitrentlaw24.RenderApart'. -/
def renderApartUptoCard : Claim7 := { stood := { row := renderApartUptoRow, standIns := [], harness := (true, "e77d5416a9df8c3a66e861d7b2dab2bdef11f9226aea0a399ebc7b12193fc2be"), looks := true }, kinds := [], alts := [], laidByText := true, laidKinds := [.data, .data, .data, .data, .sentinel, .sentinel, .data, .pinned], laidTests := true, laidLooks := .later }
def RenderApartUptoCardSaid : Prop := Claim7.holds Tryd.pinned (.plain (OpenSpec.upto renderApartSpec)) renderApartUptoCard

/-- THE SECOND FORM's CARD OF 'quitrentlaw24.RenderKnown'. -/
def renderKnownUptoCard : Claim7 := { stood := { row := renderKnownUptoRow, standIns := [], harness := (true, "e77d5416a9df8c3a66e861d7b2dab2bdef11f9226aea0a399ebc7b12193fc2be"), looks := true }, kinds := [], alts := [], laidByText := true, laidKinds := [.data, .data, .data, .data, .sentinel, .sentinel, .data, .pinned], laidTests := true, laidLooks := .later }
def RenderKnownUptoCardSaid : Prop := Claim7.holds Tryd.pinned (.plain (OpenSpec.upto renderKnownSpec)) renderKnownUptoCard

/-- THE SECOND FORM's CARD OF 'quitrentlaw24.RenderLines'. -/
def renderLinesUptoCard : Claim7 := { stood := { row := renderLinesUptoRow, standIns := [], harness := (true, "e77d5416a9df8c3a66e861d7b2dab2bdef11f9226aea0a399ebc7b12193fc2be"), looks := true }, kinds := [], alts := [], laidByText := true, laidKinds := [.data, .data, .data, .data, .sentinel, .sentinel, .data, .pinned], laidTests := true, laidLooks := .later }
def RenderLinesUptoCardSaid : Prop := Claim7.holds Tryd.pinned (.plain (OpenSpec.upto renderLinesSpec)) renderLinesUptoCard
end Rows
end Go.Proofs.YtblmejdgdcihbaaDoor
