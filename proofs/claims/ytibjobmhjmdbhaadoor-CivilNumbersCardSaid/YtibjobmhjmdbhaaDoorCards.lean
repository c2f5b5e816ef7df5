/-
  DERIVED. GIVEN WITH THE SEED: THE CARDS: each row of YtibjobmhjmdbhaaDoorRows.lean that lists a variable, with what it lists TIED to the program's text (the seventh form; the later family's looks); each row that meets fmt, with fmt's text TOLD by the authors' own Lean function (tested against real Go, not proved from fmt's source: count such statements apart). THE CARD IS WHAT COUNTS. Prove the row's statement (the work); the ties are given (YtibjobmhjmdbhaaDoorTie.lean); close each card by the builder's one call (the guide's Derived/Test/ToyasCard.lean, 'card_holds'). Laid BY PROGRAM, IN A SANDBOX (cutbox-door.mjs). By AI agents, Wed Nov 11 2026. No macro, syntax, notation, axiom, sorry.
-/
import Derived.Test.YtibjobmhjmdbhaaDoorRows
import GoSem.ClaimSeven
namespace Go.Proofs.YtibjobmhjmdbhaaDoor
namespace Rows

/-- THE TIED CARD OF 'quitrentlaw22.QuotaMore'. -/
def quotaMoreCard : Claim7 := { stood := { row := quotaMoreRow, standIns := [], harness := (true, "d2943d62b16deff3e9f6435ca922ba13b319cf12a71fed038cc09e7096d46325"), looks := true }, kinds := [], alts := [], laidByText := true, laidKinds := [.data, .data, .data], laidTests := true, laidLooks := .later }
def QuotaMoreCardSaid : Prop := Claim7.holds Tryd.pinned (.plain (OpenSpec.ofChange quotaMoreSpec)) quotaMoreCard

/-- THE TIED CARD OF 'quitrentlaw22.QuotaEdge'. -/
def quotaEdgeCard : Claim7 := { stood := { row := quotaEdgeRow, standIns := [], harness := (true, "d2943d62b16deff3e9f6435ca922ba13b319cf12a71fed038cc09e7096d46325"), looks := true }, kinds := [], alts := [], laidByText := true, laidKinds := [.data, .data, .data], laidTests := true, laidLooks := .later }
def QuotaEdgeCardSaid : Prop := Claim7.holds Tryd.pinned (.plain (OpenSpec.ofChange quotaEdgeSpec)) quotaEdgeCard

/-- THE TIED CARD OF 'quitrentlaw22.QuotaBound'. -/
def quotaBoundCard : Claim7 := { stood := { row := quotaBoundRow, standIns := [], harness := (true, "d2943d62b16deff3e9f6435ca922ba13b319cf12a71fed038cc09e7096d46325"), looks := true }, kinds := [], alts := [], laidByText := true, laidKinds := [.data, .data, .data], laidTests := true, laidLooks := .later }
def QuotaBoundCardSaid : Prop := Claim7.holds Tryd.pinned (.plain (OpenSpec.ofChange quotaBoundSpec)) quotaBoundCard

/-- THE TIED CARD OF 'quitrentlaw08.CivilBack'. -/
def civilBackCard : Claim7 := { stood := { row := civilBackRow, standIns := [], harness := (true, "d2943d62b16deff3e9f6435ca922ba13b319cf12a71fed038cc09e7096d46325"), looks := true }, kinds := [], alts := [], laidByText := true, laidKinds := [.data, .data, .data, .sentinel, .sentinel, .data], laidTests := true, laidLooks := .later }
def CivilBackCardSaid : Prop := Claim7.holds Tryd.pinned (.plain (OpenSpec.ofChange civilBackSpec)) civilBackCard

/-- THE TIED CARD OF 'quitrentlaw08.CivilTexts'. -/
def civilTextsCard : Claim7 := { stood := { row := civilTextsRow, standIns := [], harness := (true, "d2943d62b16deff3e9f6435ca922ba13b319cf12a71fed038cc09e7096d46325"), looks := true }, kinds := [], alts := [], laidByText := true, laidKinds := [.data, .data, .data, .sentinel, .sentinel, .data], laidTests := true, laidLooks := .later }
def CivilTextsCardSaid : Prop := Claim7.holds Tryd.pinned (.plain (OpenSpec.ofChange civilTextsSpec)) civilTextsCard

/-- THE TIED CARD OF 'quitrentlaw08.CivilKnown'. -/
def civilKnownCard : Claim7 := { stood := { row := civilKnownRow, standIns := [], harness := (true, "d2943d62b16deff3e9f6435ca922ba13b319cf12a71fed038cc09e7096d46325"), looks := true }, kinds := [], alts := [], laidByText := true, laidKinds := [.data, .data, .data, .sentinel, .sentinel, .data], laidTests := true, laidLooks := .later }
def CivilKnownCardSaid : Prop := Claim7.holds Tryd.pinned (.plain (OpenSpec.ofChange civilKnownSpec)) civilKnownCard

/-- THE TIED CARD OF 'quitrentlaw08.CivilDates'. -/
def civilDatesCard : Claim7 := { stood := { row := civilDatesRow, standIns := [], harness := (true, "d2943d62b16deff3e9f6435ca922ba13b319cf12a71fed038cc09e7096d46325"), looks := true }, kinds := [], alts := [], laidByText := true, laidKinds := [.data, .data, .data, .sentinel, .sentinel, .data], laidTests := true, laidLooks := .later }
def CivilDatesCardSaid : Prop := Claim7.holds Tryd.pinned (.plain (OpenSpec.ofChange civilDatesSpec)) civilDatesCard

/-- THE TIED CARD OF 'quitrentlaw08.CivilNumbers'. -/
def civilNumbersCard : Claim7 := { stood := { row := civilNumbersRow, standIns := [], harness := (true, "d2943d62b16deff3e9f6435ca922ba13b319cf12a71fed038cc09e7096d46325"), looks := true }, kinds := [], alts := [], laidByText := true, laidKinds := [.data, .data, .data, .sentinel, .sentinel, .data], laidTests := true, laidLooks := .later }
def CivilNumbersCardSaid : Prop := Claim7.holds Tryd.pinned (.plain (OpenSpec.ofChange civilNumbersSpec)) civilNumbersCard

/-- THE TIED CARD OF 'quitrentlaw08.CivilNext'. -/
def civilNextCard : Claim7 := { stood := { row := civilNextRow, standIns := [], harness := (true, "d2943d62b16deff3e9f6435ca922ba13b319cf12a71fed038cc09e7096d46325"), looks := true }, kinds := [], alts := [], laidByText := true, laidKinds := [.data, .data, .data, .sentinel, .sentinel, .data], laidTests := true, laidLooks := .later }
def CivilNextCardSaid : Prop := Claim7.holds Tryd.pinned (.plain (OpenSpec.ofChange civilNextSpec)) civilNextCard

/-- THE TIED CARD OF 'quitrentlaw08.CivilMonths'. -/
def civilMonthsCard : Claim7 := { stood := { row := civilMonthsRow, standIns := [], harness := (true, "d2943d62b16deff3e9f6435ca922ba13b319cf12a71fed038cc09e7096d46325"), looks := true }, kinds := [], alts := [], laidByText := true, laidKinds := [.data, .data, .data, .sentinel, .sentinel, .data], laidTests := true, laidLooks := .later }
def CivilMonthsCardSaid : Prop := Claim7.holds Tryd.pinned (.plain (OpenSpec.ofChange civilMonthsSpec)) civilMonthsCard

/-- THE TIED CARD OF 'quitrentlaw15.AcctNames'. -/
def acctNamesCard : Claim7 := { stood := { row := acctNamesRow, standIns := [], harness := (true, "d2943d62b16deff3e9f6435ca922ba13b319cf12a71fed038cc09e7096d46325"), looks := true }, kinds := [], alts := [], laidByText := true, laidKinds := [.data, .data, .data, .data, .sentinel, .sentinel, .pinned], laidTests := true, laidLooks := .later }
def AcctNamesCardSaid : Prop := Claim7.holds Tryd.pinned (.plain (OpenSpec.ofChange acctNamesSpec)) acctNamesCard

/-- THE TIED CARD OF 'quitrentlaw15.AcctParses'. -/
def acctParsesCard : Claim7 := { stood := { row := acctParsesRow, standIns := [], harness := (true, "d2943d62b16deff3e9f6435ca922ba13b319cf12a71fed038cc09e7096d46325"), looks := true }, kinds := [], alts := [], laidByText := true, laidKinds := [.data, .data, .data, .data, .sentinel, .sentinel, .pinned], laidTests := true, laidLooks := .later }
def AcctParsesCardSaid : Prop := Claim7.holds Tryd.pinned (.plain (OpenSpec.ofChange acctParsesSpec)) acctParsesCard

/-- THE SECOND FORM's CARD OF 'quitrentlaw22.QuotaMore'. -/
def quotaMoreUptoCard : Claim7 := { stood := { row := quotaMoreUptoRow, standIns := [], harness := (true, "d2943d62b16deff3e9f6435ca922ba13b319cf12a71fed038cc09e7096d46325"), looks := true }, kinds := [], alts := [], laidByText := true, laidKinds := [.data, .data, .data], laidTests := true, laidLooks := .later }
def QuotaMoreUptoCardSaid : Prop := Claim7.holds Tryd.pinned (.plain (OpenSpec.upto quotaMoreSpec)) quotaMoreUptoCard

/-- THE SECOND FORM's CARD OF 'quitrentlaw22.QuotaEdge'. -/
def quotaEdgeUptoCard : Claim7 := { stood := { row := quotaEdgeUptoRow, standIns := [], harness := (true, "d2943d62b16deff3e9f6435ca922ba13b319cf12a71fed038cc09e7096d46325"), looks := true }, kinds := [], alts := [], laidByText := true, laidKinds := [.data, .data, .data], laidTests := true, laidLooks := .later }
def QuotaEdgeUptoCardSaid : Prop := Claim7.holds Tryd.pinned (.plain (OpenSpec.upto quotaEdgeSpec)) quotaEdgeUptoCard

/-- THE SECOND FORM's CARD OF 'quitrentlaw22.QuotaBound'. -/
def quotaBoundUptoCard : Claim7 := { stood := { row := quotaBoundUptoRow, standIns := [], harness := (true, "d2943d62b16deff3e9f6435ca922ba13b319cf12a71fed038cc09e7096d46325"), looks := true }, kinds := [], alts := [], laidByText := true, laidKinds := [.data, .data, .data], laidTests := true, laidLooks := .later }
def QuotaBoundUptoCardSaid : Prop := Claim7.holds Tryd.pinned (.plain (OpenSpec.upto quotaBoundSpec)) quotaBoundUptoCard

/-- THE SECOND FORM's CARD OF 'quitrentlaw08.CivilBack'. -/
def civilBackUptoCard : Claim7 := { stood := { row := civilBackUptoRow, standIns := [], harness := (true, "d2943d62b16deff3e9f6435ca922ba13b319cf12a71fed038cc09e7096d46325"), looks := true }, kinds := [], alts := [], laidByText := true, laidKinds := [.data, .data, .data, .sentinel, .sentinel, .data], laidTests := true, laidLooks := .later }
def CivilBackUptoCardSaid : Prop := Claim7.holds Tryd.pinned (.plain (OpenSpec.upto civilBackSpec)) civilBackUptoCard

/-- THE SECOND FORM's CARD OF 'quitrentlaw08.CivilTexts'. -/
def civilTextsUptoCard : Claim7 := { stood := { row := civilTextsUptoRow, standIns := [], harness := (true, "d2943d62b16deff3e9f6435ca922ba13b319cf12a71fed038cc09e7096d46325"), looks := true }, kinds := [], alts := [], laidByText := true, laidKinds := [.data, .data, .data, .sentinel, .sentinel, .data], laidTests := true, laidLooks := .later }
def CivilTextsUptoCardSaid : Prop := Claim7.holds Tryd.pinned (.plain (OpenSpec.upto civilTextsSpec)) civilTextsUptoCard

/-- THE SECOND FORM's CARD OF 'quitrentlaw08.CivilKnown'. -/
def civilKnownUptoCard : Claim7 := { stood := { row := civilKnownUptoRow, standIns := [], harness := (true, "d2943d62b16deff3e9f6435ca922ba13b319cf12a71fed038cc09e7096d46325"), looks := true }, kinds := [], alts := [], laidByText := true, laidKinds := [.data, .data, .data, .sentinel, .sentinel, .data], laidTests := true, laidLooks := .later }
def CivilKnownUptoCardSaid : Prop := Claim7.holds Tryd.pinned (.plain (OpenSpec.upto civilKnownSpec)) civilKnownUptoCard

/-- THE SECOND FORM's CARD OF 'quitrentlaw08.CivilDates'. -/
def civilDatesUptoCard : Claim7 := { stood := { row := civilDatesUptoRow, standIns := [], harness := (true, "d2943d62b16deff3e9f6435ca922ba13b319cf12a71fed038cc09e7096d46325"), looks := true }, kinds := [], alts := [], laidByText := true, laidKinds := [.data, .data, .data, .sentinel, .sentinel, .data], laidTests := true, laidLooks := .later }
def CivilDatesUptoCardSaid : Prop := Claim7.holds Tryd.pinned (.plain (OpenSpec.upto civilDatesSpec)) civilDatesUptoCard

/-- THE SECOND FORM's CARD OF 'quitrentlaw08.CivilNumbers'. -/
def civilNumbersUptoCard : Claim7 := { stood := { row := civilNumbersUptoRow, standIns := [], harness := (true, "d2943d62b16deff3e9f6435ca922ba13b319cf12a71fed038cc09e7096d46325"), looks := true }, kinds := [], alts := [], laidByText := true, laidKinds := [.data, .data, .data, .sentinel, .sentinel, .data], laidTests := true, laidLooks := .later }
def CivilNumbersUptoCardSaid : Prop := Claim7.holds Tryd.pinned (.plain (OpenSpec.upto civilNumbersSpec)) civilNumbersUptoCard

/-- THE SECOND FORM's CARD OF 'quitrentlaw08.CivilNext'. -/
def civilNextUptoCard : Claim7 := { stood := { row := civilNextUptoRow, standIns := [], harness := (true, "d2943d62b16deff3e9f6435ca922ba13b319cf12a71fed038cc09e7096d46325"), looks := true }, kinds := [], alts := [], laidByText := true, laidKinds := [.data, .data, .data, .sentinel, .sentinel, .data], laidTests := true, laidLooks := .later }
def CivilNextUptoCardSaid : Prop := Claim7.holds Tryd.pinned (.plain (OpenSpec.upto civilNextSpec)) civilNextUptoCard

/-- THE SECOND FORM's CARD OF 'quitrentlaw08.CivilMonths'. -/
def civilMonthsUptoCard : Claim7 := { stood := { row := civilMonthsUptoRow, standIns := [], harness := (true, "d2943d62b16deff3e9f6435ca922ba13b319cf12a71fed038cc09e7096d46325"), looks := true }, kinds := [], alts := [], laidByText := true, laidKinds := [.data, .data, .data, .sentinel, .sentinel, .data], laidTests := true, laidLooks := .later }
def CivilMonthsUptoCardSaid : Prop := Claim7.holds Tryd.pinned (.plain (OpenSpec.upto civilMonthsSpec)) civilMonthsUptoCard

/-- THE SECOND FORM's CARD OF 'quitrentlaw15.AcctNames'. -/
def acctNamesUptoCard : Claim7 := { stood := { row := acctNamesUptoRow, standIns := [], harness := (true, "d2943d62b16deff3e9f6435ca922ba13b319cf12a71fed038cc09e7096d46325"), looks := true }, kinds := [], alts := [], laidByText := true, laidKinds := [.data, .data, .data, .data, .sentinel, .sentinel, .pinned], laidTests := true, laidLooks := .later }
def AcctNamesUptoCardSaid : Prop := Claim7.holds Tryd.pinned (.plain (OpenSpec.upto acctNamesSpec)) acctNamesUptoCard

/-- THE SECOND FORM's CARD OF 'quitrentlaw15.AcctParses'. -/
def acctParsesUptoCard : Claim7 := { stood := { row := acctParsesUptoRow, standIns := [], harness := (true, "d2943d62b16deff3e9f6435ca922ba13b319cf12a71fed038cc09e7096d46325"), looks := true }, kinds := [], alts := [], laidByText := true, laidKinds := [.data, .data, .data, .data, .sentinel, .sentinel, .pinned], laidTests := true, laidLooks := .later }
def AcctParsesUptoCardSaid : Prop := Claim7.holds Tryd.pinned (.plain (OpenSpec.upto acctParsesSpec)) acctParsesUptoCard
end Rows
end Go.Proofs.YtibjobmhjmdbhaaDoor
