/-
  DERIVED. GIVEN WITH THE SEED: THE CARDS: each row of YtffpnkkhcgjmfaaDoorRows.lean that lists a variable, with what it lists TIED to the program's text (the seventh form; the later family's looks); each row that meets fmt, with fmt's text TOLD by the authors' own Lean function (tested against real Go, not proved from fmt's source: count such statements apart). THE CARD IS WHAT COUNTS. Prove the row's statement (the work); the ties are given (YtffpnkkhcgjmfaaDoorTie.lean); close each card by the builder's one call (the guide's Derived/Test/ToyasCard.lean, 'card_holds'). Laid BY PROGRAM, IN A SANDBOX (cutbox-door.mjs). By AI agents, Wed Nov 11 2026. No macro, syntax, notation, axiom, sorry.
-/
import Derived.Test.YtffpnkkhcgjmfaaDoorRows
import GoSem.ClaimSeven
namespace Go.Proofs.YtffpnkkhcgjmfaaDoor
namespace Rows

/-- THE TIED CARD OF 'laws.FnExactProgramText'. -/
def fnExactProgramTextCard : Claim7 := { stood := { row := fnExactProgramTextRow, standIns := [], harness := (true, "c4eb9b9aa1bce00e24b30eb745a20086b0248f2aadecfe5b096d99b5f10c0c48"), looks := false }, kinds := [], alts := [], laidByText := true, laidKinds := [.data, .data, .data], laidTests := true, laidLooks := .later }
def FnExactProgramTextCardSaid : Prop := Claim7.holds Tryd.pinned (.plain (OpenSpec.ofChange fnExactProgramTextSpec)) fnExactProgramTextCard

/-- THE TIED CARD OF 'laws.FnExactFlatText'. -/
def fnExactFlatTextCard : Claim7 := { stood := { row := fnExactFlatTextRow, standIns := [], harness := (true, "c4eb9b9aa1bce00e24b30eb745a20086b0248f2aadecfe5b096d99b5f10c0c48"), looks := false }, kinds := [], alts := [], laidByText := true, laidKinds := [.data, .data, .data], laidTests := true, laidLooks := .later }
def FnExactFlatTextCardSaid : Prop := Claim7.holds Tryd.pinned (.plain (OpenSpec.ofChange fnExactFlatTextSpec)) fnExactFlatTextCard

/-- THE SECOND FORM's CARD OF 'laws.FnExactProgramText'. -/
def fnExactProgramTextUptoCard : Claim7 := { stood := { row := fnExactProgramTextUptoRow, standIns := [], harness := (true, "c4eb9b9aa1bce00e24b30eb745a20086b0248f2aadecfe5b096d99b5f10c0c48"), looks := false }, kinds := [], alts := [], laidByText := true, laidKinds := [.data, .data, .data], laidTests := true, laidLooks := .later }
def FnExactProgramTextUptoCardSaid : Prop := Claim7.holds Tryd.pinned (.plain (OpenSpec.upto fnExactProgramTextSpec)) fnExactProgramTextUptoCard

/-- THE SECOND FORM's CARD OF 'laws.FnExactFlatText'. -/
def fnExactFlatTextUptoCard : Claim7 := { stood := { row := fnExactFlatTextUptoRow, standIns := [], harness := (true, "c4eb9b9aa1bce00e24b30eb745a20086b0248f2aadecfe5b096d99b5f10c0c48"), looks := false }, kinds := [], alts := [], laidByText := true, laidKinds := [.data, .data, .data], laidTests := true, laidLooks := .later }
def FnExactFlatTextUptoCardSaid : Prop := Claim7.holds Tryd.pinned (.plain (OpenSpec.upto fnExactFlatTextSpec)) fnExactFlatTextUptoCard
end Rows
end Go.Proofs.YtffpnkkhcgjmfaaDoor
