/-
  DERIVED. GIVEN WITH THE SEED: THE CARDS: each row of YtffpnkkhcgjmfaaGreatDoorRows.lean that lists a variable, with what it lists TIED to the program's text (the seventh form; the later family's looks); each row that meets fmt, with fmt's text TOLD by the authors' own Lean function (tested against real Go, not proved from fmt's source: count such statements apart). THE CARD IS WHAT COUNTS. Prove the row's statement (the work); the ties are given (YtffpnkkhcgjmfaaGreatDoorTie.lean); close each card by the builder's one call (the guide's Derived/Test/ToyasCard.lean, 'card_holds'). Laid BY PROGRAM, IN A SANDBOX (cutbox-door.mjs). By AI agents, Wed Nov 11 2026. No macro, syntax, notation, axiom, sorry.
-/
import Derived.Test.YtffpnkkhcgjmfaaGreatDoorRows
import GoSem.ClaimSeven
namespace Go.Proofs.YtffpnkkhcgjmfaaGreatDoor
namespace Rows

/-- THE TIED CARD OF 'laws.FnExactReadChimney'. -/
def fnExactReadChimneyCard : Claim7 := { stood := { row := fnExactReadChimneyRow, standIns := [], harness := (true, "fe51d264a6f4ea1a7b1ab4e27e6f82777a63935095e26e400a3db140209b142b"), looks := true }, kinds := [], alts := [], laidByText := true, laidKinds := [.data, .data, .data, .data, .sentinel, .sentinel, .pinned], laidTests := true, laidLooks := .later }
def FnExactReadChimneyCardSaid : Prop := Claim7.holds Tryz.pinned (.plain (OpenSpec.ofChange fnExactReadChimneySpec)) fnExactReadChimneyCard

/-- THE TIED CARD OF 'laws.FnFlues'. -/
def fnFluesCard : Claim7 := { stood := { row := fnFluesRow, standIns := [], harness := (true, "fe51d264a6f4ea1a7b1ab4e27e6f82777a63935095e26e400a3db140209b142b"), looks := true }, kinds := [], alts := [], laidByText := true, laidKinds := [.data, .data, .data, .data, .sentinel, .sentinel, .pinned], laidTests := true, laidLooks := .later }
def FnFluesCardSaid : Prop := Claim7.holds Tryz.pinned (.plain (OpenSpec.ofChange fnFluesSpec)) fnFluesCard

/-- THE TIED CARD OF 'laws.FnExactCompileProgram'. -/
def fnExactCompileProgramCard : Claim7 := { stood := { row := fnExactCompileProgramRow, standIns := [], harness := (true, "fe51d264a6f4ea1a7b1ab4e27e6f82777a63935095e26e400a3db140209b142b"), looks := true }, kinds := [], alts := [], laidByText := true, laidKinds := [.data, .data, .data, .data, .sentinel, .sentinel, .pinned], laidTests := true, laidLooks := .later }
def FnExactCompileProgramCardSaid : Prop := Claim7.holds Tryz.pinned (.plain (OpenSpec.ofChange fnExactCompileProgramSpec)) fnExactCompileProgramCard

/-- THE SECOND FORM's CARD OF 'laws.FnExactReadChimney'. -/
def fnExactReadChimneyUptoCard : Claim7 := { stood := { row := fnExactReadChimneyUptoRow, standIns := [], harness := (true, "fe51d264a6f4ea1a7b1ab4e27e6f82777a63935095e26e400a3db140209b142b"), looks := true }, kinds := [], alts := [], laidByText := true, laidKinds := [.data, .data, .data, .data, .sentinel, .sentinel, .pinned], laidTests := true, laidLooks := .later }
def FnExactReadChimneyUptoCardSaid : Prop := Claim7.holds Tryz.pinned (.plain (OpenSpec.upto fnExactReadChimneySpec)) fnExactReadChimneyUptoCard

/-- THE SECOND FORM's CARD OF 'laws.FnFlues'. -/
def fnFluesUptoCard : Claim7 := { stood := { row := fnFluesUptoRow, standIns := [], harness := (true, "fe51d264a6f4ea1a7b1ab4e27e6f82777a63935095e26e400a3db140209b142b"), looks := true }, kinds := [], alts := [], laidByText := true, laidKinds := [.data, .data, .data, .data, .sentinel, .sentinel, .pinned], laidTests := true, laidLooks := .later }
def FnFluesUptoCardSaid : Prop := Claim7.holds Tryz.pinned (.plain (OpenSpec.upto fnFluesSpec)) fnFluesUptoCard

/-- THE SECOND FORM's CARD OF 'laws.FnExactCompileProgram'. -/
def fnExactCompileProgramUptoCard : Claim7 := { stood := { row := fnExactCompileProgramUptoRow, standIns := [], harness := (true, "fe51d264a6f4ea1a7b1ab4e27e6f82777a63935095e26e400a3db140209b142b"), looks := true }, kinds := [], alts := [], laidByText := true, laidKinds := [.data, .data, .data, .data, .sentinel, .sentinel, .pinned], laidTests := true, laidLooks := .later }
def FnExactCompileProgramUptoCardSaid : Prop := Claim7.holds Tryz.pinned (.plain (OpenSpec.upto fnExactCompileProgramSpec)) fnExactCompileProgramUptoCard
end Rows
end Go.Proofs.YtffpnkkhcgjmfaaGreatDoor
