/-
  DERIVED. GIVEN WITH THE SEED: THE CARDS: each row of YtecbnhmnhcpcmaaDoorRows.lean that lists a variable, with what it lists TIED to the program's text (the seventh form; the later family's looks); each row that meets fmt, with fmt's text TOLD by the authors' own Lean function (tested against real Go, not proved from fmt's source: count such statements apart). THE CARD IS WHAT COUNTS. Prove the row's statement (the work); the ties are given (YtecbnhmnhcpcmaaDoorTie.lean); close each card by the builder's one call (the guide's Derived/Test/ToyasCard.lean, 'card_holds'). Laid BY PROGRAM, IN A SANDBOX (cutbox-door.mjs). By AI agents, Wed Nov 11 2026. No macro, syntax, notation, axiom, sorry.
-/
import Derived.Test.YtecbnhmnhcpcmaaDoorRows
import GoSem.ClaimSeven
namespace Go.Proofs.YtecbnhmnhcpcmaaDoor
namespace Rows

/-- THE TIED CARD OF 'quitrentlaw17.JournalOrder'. -/
def journalOrderCard : Claim7 := { stood := { row := journalOrderRow, standIns := [], harness := (true, "42e19c9c4ef79a51d54cbfaa0bcdead07f64d708f53c51efb3174afe9c83beee"), looks := true }, kinds := [], alts := [], laidByText := true, laidKinds := [.data, .data, .data, .data, .sentinel, .sentinel, .pinned], laidTests := true, laidLooks := .later }
def JournalOrderCardSaid : Prop := Claim7.holds Tryd.pinned (.plain (OpenSpec.ofChange journalOrderSpec)) journalOrderCard

/-- THE TIED CARD OF 'quitrentlaw17.JournalNeg'. -/
def journalNegCard : Claim7 := { stood := { row := journalNegRow, standIns := [], harness := (true, "42e19c9c4ef79a51d54cbfaa0bcdead07f64d708f53c51efb3174afe9c83beee"), looks := true }, kinds := [], alts := [], laidByText := true, laidKinds := [.data, .data, .data, .data, .sentinel, .sentinel, .pinned], laidTests := true, laidLooks := .later }
def JournalNegCardSaid : Prop := Claim7.holds Tryd.pinned (.plain (OpenSpec.ofChange journalNegSpec)) journalNegCard

/-- THE SECOND FORM's CARD OF 'quitrentlaw17.JournalOrder'. -/
def journalOrderUptoCard : Claim7 := { stood := { row := journalOrderUptoRow, standIns := [], harness := (true, "42e19c9c4ef79a51d54cbfaa0bcdead07f64d708f53c51efb3174afe9c83beee"), looks := true }, kinds := [], alts := [], laidByText := true, laidKinds := [.data, .data, .data, .data, .sentinel, .sentinel, .pinned], laidTests := true, laidLooks := .later }
def JournalOrderUptoCardSaid : Prop := Claim7.holds Tryd.pinned (.plain (OpenSpec.upto journalOrderSpec)) journalOrderUptoCard

/-- THE SECOND FORM's CARD OF 'quitrentlaw17.JournalNeg'. -/
def journalNegUptoCard : Claim7 := { stood := { row := journalNegUptoRow, standIns := [], harness := (true, "42e19c9c4ef79a51d54cbfaa0bcdead07f64d708f53c51efb3174afe9c83beee"), looks := true }, kinds := [], alts := [], laidByText := true, laidKinds := [.data, .data, .data, .data, .sentinel, .sentinel, .pinned], laidTests := true, laidLooks := .later }
def JournalNegUptoCardSaid : Prop := Claim7.holds Tryd.pinned (.plain (OpenSpec.upto journalNegSpec)) journalNegUptoCard
end Rows
end Go.Proofs.YtecbnhmnhcpcmaaDoor
