/-
  DERIVED. GIVEN WITH THE SEED: THE CARDS: each row of YtbmagccjcccnaaaDoorRows.lean that lists a variable, with what it lists TIED to the program's text (the seventh form; the later family's looks); each row that meets fmt, with fmt's text TOLD by the authors' own Lean function (tested against real Go, not proved from fmt's source: count such statements apart). THE CARD IS WHAT COUNTS. Prove the row's statement (the work); the ties are given (YtbmagccjcccnaaaDoorTie.lean); close each card by the builder's one call (the guide's Derived/Test/ToyasCard.lean, 'card_holds'). Laid BY PROGRAM, IN A SANDBOX (cutbox-door.mjs). By AI agents, Wed Nov 11 2026. No macro, syntax, notation, axiom, sorry.
-/
import Derived.Test.YtbmagccjcccnaaaDoorRows
import GoSem.ClaimSeven
namespace Go.Proofs.YtbmagccjcccnaaaDoor
namespace Rows

/-- THE TIED CARD OF 'laws.FnExactReadWood'. -/
def fnExactReadWoodCard : Claim7 := { stood := { row := fnExactReadWoodRow, standIns := [], harness := (true, "d22db448a001bccdc836b9b481b7f99a1a76a57cdab27cbdaef6c364359259b4"), looks := false }, kinds := [], alts := [], laidByText := true, laidKinds := [.data, .pinned], laidTests := true, laidLooks := .later }
def FnExactReadWoodCardSaid : Prop := Claim7.holds Tryd.pinned (.plain (OpenSpec.ofChange fnExactReadWoodSpec)) fnExactReadWoodCard

/-- THE SECOND FORM's CARD OF 'laws.FnExactReadWood'. -/
def fnExactReadWoodUptoCard : Claim7 := { stood := { row := fnExactReadWoodUptoRow, standIns := [], harness := (true, "d22db448a001bccdc836b9b481b7f99a1a76a57cdab27cbdaef6c364359259b4"), looks := false }, kinds := [], alts := [], laidByText := true, laidKinds := [.data, .pinned], laidTests := true, laidLooks := .later }
def FnExactReadWoodUptoCardSaid : Prop := Claim7.holds Tryd.pinned (.plain (OpenSpec.upto fnExactReadWoodSpec)) fnExactReadWoodUptoCard
end Rows
end Go.Proofs.YtbmagccjcccnaaaDoor
