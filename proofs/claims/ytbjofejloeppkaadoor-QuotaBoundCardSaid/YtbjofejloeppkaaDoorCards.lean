/-
  DERIVED. GIVEN WITH THE SEED: THE CARDS: each row of YtbjofejloeppkaaDoorRows.lean that lists a variable, with what it lists TIED to the program's text (the seventh form; the later family's looks); each row that meets fmt, with fmt's text TOLD by the authors' own Lean function (tested against real Go, not proved from fmt's source: count such statements apart). THE CARD IS WHAT COUNTS. Prove the row's statement (the work); the ties are given (YtbjofejloeppkaaDoorTie.lean); close each card by the builder's one call (the guide's Derived/Test/ToyasCard.lean, 'card_holds'). Laid BY PROGRAM, IN A SANDBOX (cutbox-door.mjs). By AI agents, Wed Nov 11 2026. No macro, syntax, notation, axiom, sorry.
-/
import Derived.Test.YtbjofejloeppkaaDoorRows
import GoSem.ClaimSeven
namespace Go.Proofs.YtbjofejloeppkaaDoor
namespace Rows

/-- THE TIED CARD OF 'quitrentlaw22.QuotaMore'. -/
def quotaMoreCard : Claim7 := { stood := { row := quotaMoreRow, standIns := [], harness := (true, "4bf69a97e53f7d577545b32900db65f7eaba4aae6184321a6e34372471e25780"), looks := false }, kinds := [], alts := [], laidByText := true, laidKinds := [.data, .data, .data], laidTests := true, laidLooks := .later }
def QuotaMoreCardSaid : Prop := Claim7.holds Tryd.pinned (.plain (OpenSpec.ofChange quotaMoreSpec)) quotaMoreCard

/-- THE TIED CARD OF 'quitrentlaw22.QuotaEdge'. -/
def quotaEdgeCard : Claim7 := { stood := { row := quotaEdgeRow, standIns := [], harness := (true, "4bf69a97e53f7d577545b32900db65f7eaba4aae6184321a6e34372471e25780"), looks := false }, kinds := [], alts := [], laidByText := true, laidKinds := [.data, .data, .data], laidTests := true, laidLooks := .later }
def QuotaEdgeCardSaid : Prop := Claim7.holds Tryd.pinned (.plain (OpenSpec.ofChange quotaEdgeSpec)) quotaEdgeCard

/-- THE TIED CARD OF 'quitrentlaw22.QuotaBound'. -/
def quotaBoundCard : Claim7 := { stood := { row := quotaBoundRow, standIns := [], harness := (true, "4bf69a97e53f7d577545b32900db65f7eaba4aae6184321a6e34372471e25780"), looks := false }, kinds := [], alts := [], laidByText := true, laidKinds := [.data, .data, .data], laidTests := true, laidLooks := .later }
def QuotaBoundCardSaid : Prop := Claim7.holds Tryd.pinned (.plain (OpenSpec.ofChange quotaBoundSpec)) quotaBoundCard

/-- THE SECOND FORM's CARD OF 'quitrentlaw22.QuotaMore'. -/
def quotaMoreUptoCard : Claim7 := { stood := { row := quotaMoreUptoRow, standIns := [], harness := (true, "4bf69a97e53f7d577545b32900db65f7eaba4aae6184321a6e34372471e25780"), looks := false }, kinds := [], alts := [], laidByText := true, laidKinds := [.data, .data, .data], laidTests := true, laidLooks := .later }
def QuotaMoreUptoCardSaid : Prop := Claim7.holds Tryd.pinned (.plain (OpenSpec.upto quotaMoreSpec)) quotaMoreUptoCard

/-- THE SECOND FORM's CARD OF 'quitrentlaw22.QuotaEdge'. -/
def quotaEdgeUptoCard : Claim7 := { stood := { row := quotaEdgeUptoRow, standIns := [], harness := (true, "4bf69a97e53f7d577545b32900db65f7eaba4aae6184321a6e34372471e25780"), looks := false }, kinds := [], alts := [], laidByText := true, laidKinds := [.data, .data, .data], laidTests := true, laidLooks := .later }
def QuotaEdgeUptoCardSaid : Prop := Claim7.holds Tryd.pinned (.plain (OpenSpec.upto quotaEdgeSpec)) quotaEdgeUptoCard

/-- THE SECOND FORM's CARD OF 'quitrentlaw22.QuotaBound'. -/
def quotaBoundUptoCard : Claim7 := { stood := { row := quotaBoundUptoRow, standIns := [], harness := (true, "4bf69a97e53f7d577545b32900db65f7eaba4aae6184321a6e34372471e25780"), looks := false }, kinds := [], alts := [], laidByText := true, laidKinds := [.data, .data, .data], laidTests := true, laidLooks := .later }
def QuotaBoundUptoCardSaid : Prop := Claim7.holds Tryd.pinned (.plain (OpenSpec.upto quotaBoundSpec)) quotaBoundUptoCard
end Rows
end Go.Proofs.YtbjofejloeppkaaDoor
