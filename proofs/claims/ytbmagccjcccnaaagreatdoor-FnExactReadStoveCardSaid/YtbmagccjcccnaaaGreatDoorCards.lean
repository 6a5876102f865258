/-
  DERIVED. GIVEN WITH THE SEED: THE CARDS: each row of YtbmagccjcccnaaaGreatDoorRows.lean that lists a variable, with what it lists TIED to the program's text (the seventh form; the later family's looks); each row that meets fmt, with fmt's text TOLD by the authors' own Lean function (tested against real Go, not proved from fmt's source: count such statements apart). THE CARD IS WHAT COUNTS. Prove the row's statement (the work); the ties are given (YtbmagccjcccnaaaGreatDoorTie.lean); close each card by the builder's one call (the guide's Derived/Test/ToyasCard.lean, 'card_holds'). Laid BY PROGRAM, IN A SANDBOX (cutbox-door.mjs). By AI agents, Wed Nov 11 2026. No macro, syntax, notation, axiom, sorry.
-/
import Derived.Test.YtbmagccjcccnaaaGreatDoorRows
import GoSem.ClaimSeven
namespace Go.Proofs.YtbmagccjcccnaaaGreatDoor
namespace Rows

/-- THE TIED CARD OF 'laws.FnLogs'. -/
def fnLogsCard : Claim7 := { stood := { row := fnLogsRow, standIns := [], harness := (true, "634375532def9ec93d696377e125221888971b2301708f7c130d3c3bebec82bd"), looks := true }, kinds := [], alts := [], laidByText := true, laidKinds := [.data, .pinned], laidTests := true, laidLooks := .later }
def FnLogsCardSaid : Prop := Claim7.holds Tryz.pinned (.plain (OpenSpec.ofChange fnLogsSpec)) fnLogsCard

/-- THE TIED CARD OF 'laws.FnExactReadStove'. -/
def fnExactReadStoveCard : Claim7 := { stood := { row := fnExactReadStoveRow, standIns := [], harness := (true, "634375532def9ec93d696377e125221888971b2301708f7c130d3c3bebec82bd"), looks := true }, kinds := [], alts := [], laidByText := true, laidKinds := [.data, .data, .data, .data, .sentinel, .sentinel, .pinned], laidTests := true, laidLooks := .later }
def FnExactReadStoveCardSaid : Prop := Claim7.holds Tryz.pinned (.plain (OpenSpec.ofChange fnExactReadStoveSpec)) fnExactReadStoveCard

/-- THE SECOND FORM's CARD OF 'laws.FnLogs'. -/
def fnLogsUptoCard : Claim7 := { stood := { row := fnLogsUptoRow, standIns := [], harness := (true, "634375532def9ec93d696377e125221888971b2301708f7c130d3c3bebec82bd"), looks := true }, kinds := [], alts := [], laidByText := true, laidKinds := [.data, .pinned], laidTests := true, laidLooks := .later }
def FnLogsUptoCardSaid : Prop := Claim7.holds Tryz.pinned (.plain (OpenSpec.upto fnLogsSpec)) fnLogsUptoCard

/-- THE SECOND FORM's CARD OF 'laws.FnExactReadStove'. -/
def fnExactReadStoveUptoCard : Claim7 := { stood := { row := fnExactReadStoveUptoRow, standIns := [], harness := (true, "634375532def9ec93d696377e125221888971b2301708f7c130d3c3bebec82bd"), looks := true }, kinds := [], alts := [], laidByText := true, laidKinds := [.data, .data, .data, .data, .sentinel, .sentinel, .pinned], laidTests := true, laidLooks := .later }
def FnExactReadStoveUptoCardSaid : Prop := Claim7.holds Tryz.pinned (.plain (OpenSpec.upto fnExactReadStoveSpec)) fnExactReadStoveUptoCard
end Rows
end Go.Proofs.YtbmagccjcccnaaaGreatDoor
