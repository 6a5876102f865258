/-
  No cell of these rows narrows 'for every input' (looked for: loops, veiled, ifaces, maps, wideKeys, modest, calm, conditions, laid).
  DERIVED. THE GIVEN ROWS OF THIS SEAT. 9 by the template 'for every input the law returns true; each argument reads behind the call as it read before'; 0 by the template 'total and deterministic' (their statements: YtfnfapmncibjfaaTotals.lean).
  GIVEN WITH THE SEED: the statements are not yours to turn. If you find one false, say at which input.
  Laid BY PROGRAM, IN A SANDBOX (cutbox-rows.mjs): the forced cells as the released guide's own fill.sh prints them over the translation 555a7e3e913c393b… (all of the seat's roots in one cut). By AI agents, Wed Nov 11 2026. No macro, syntax, notation, axiom, sorry.
-/
import Derived.Test.YtfnfapmncibjfaaChecked
import GoSem.Claim
import GoSem.ClaimJoined
import GoSem.ClaimMapViews
import Derived.JoinedTies
import Derived.KernelRfl
namespace Go.Proofs.Ytfnfapmncibjfaa
/- THE CELL 'sum', in the pinned program and in every row, IS THE sha256 OF THE DUMP (.gsa) THAT YtfnfapmncibjfaaProg.lean LOADS. Nothing in Lean hashes anything: it is a label: what it is worth is what the hold of that sum in a sandbox is worth. -/
noncomputable def Try.pinned : Pinned := { name := "ytfnfapmncibjfaa", sum := "555a7e3e913c393b7a65210ef080608f9117b0c40aa839c22ffda10795550e06", checked := Try.checked }
namespace Rows
def none {H : Type} : Left H := { results := [], args := [] }

/-- 'laws.FnStill': WHATEVER THE INPUT: true; the input reads as it did. -/
def fnStillSpec : ChangeSpec := { name := "fnStill", fn := fun _ => fun
  | [d1, d2] => { results := [.lit (.bool true)], args := [d1, d2] }
  | _ => none }
def fnStillRow : OpenClaim := { program := "ytfnfapmncibjfaa", sum := "555a7e3e913c393b7a65210ef080608f9117b0c40aa839c22ffda10795550e06", func := "loop.example/g01229/laws.FnStill", spec := "fnStill", inPlace := ["math.Float64bits", "math.Float64frombits", "math.Float32bits"], unfollowed := true, recurses := true, apart := false }
def FnStillSaid : Prop := fnStillRow.holds Try.pinned (OpenSpec.ofChange fnStillSpec)

/-- ITS FALSE NEIGHBOUR: 'it returns false'. Refute it at one input. -/
def fnStillWrong : ChangeSpec := { name := "fnStill", fn := fun _ => fun
  | [d1, d2] => { results := [.lit (.bool false)], args := [d1, d2] }
  | _ => none }
def FnStillWrongFalsely : Prop := fnStillRow.holds Try.pinned (OpenSpec.ofChange fnStillWrong)

/-- 'laws.FnExactEnergyOf': WHATEVER THE INPUT: true; the input reads as it did. -/
def fnExactEnergyOfSpec : ChangeSpec := { name := "fnExactEnergyOf", fn := fun _ => fun
  | [d] => { results := [.lit (.bool true)], args := [d] }
  | _ => none }
def fnExactEnergyOfRow : OpenClaim := { program := "ytfnfapmncibjfaa", sum := "555a7e3e913c393b7a65210ef080608f9117b0c40aa839c22ffda10795550e06", func := "loop.example/g01229/laws.FnExactEnergyOf", spec := "fnExactEnergyOf", inPlace := ["math.Float32bits", "math.Float64bits", "math.Float64frombits"], apart := false }
def FnExactEnergyOfSaid : Prop := fnExactEnergyOfRow.holds Try.pinned (OpenSpec.ofChange fnExactEnergyOfSpec)

/-- ITS FALSE NEIGHBOUR: 'it returns false'. Refute it at one input. -/
def fnExactEnergyOfWrong : ChangeSpec := { name := "fnExactEnergyOf", fn := fun _ => fun
  | [d] => { results := [.lit (.bool false)], args := [d] }
  | _ => none }
def FnExactEnergyOfWrongFalsely : Prop := fnExactEnergyOfRow.holds Try.pinned (OpenSpec.ofChange fnExactEnergyOfWrong)

/-- 'laws.FnExactGainsFor': WHATEVER THE INPUT: true; the input reads as it did. -/
def fnExactGainsForSpec : ChangeSpec := { name := "fnExactGainsFor", fn := fun _ => fun
  | [d1, d2, d3, d4] => { results := [.lit (.bool true)], args := [d1, d2, d3, d4] }
  | _ => none }
def fnExactGainsForRow : OpenClaim := { program := "ytfnfapmncibjfaa", sum := "555a7e3e913c393b7a65210ef080608f9117b0c40aa839c22ffda10795550e06", func := "loop.example/g01229/laws.FnExactGainsFor", spec := "fnExactGainsFor", inPlace := ["math.Float32bits", "math.Float64bits", "math.Float64frombits"], apart := false }
def FnExactGainsForSaid : Prop := fnExactGainsForRow.holds Try.pinned (OpenSpec.ofChange fnExactGainsForSpec)

/-- ITS FALSE NEIGHBOUR: 'it returns false'. Refute it at one input. -/
def fnExactGainsForWrong : ChangeSpec := { name := "fnExactGainsFor", fn := fun _ => fun
  | [d1, d2, d3, d4] => { results := [.lit (.bool false)], args := [d1, d2, d3, d4] }
  | _ => none }
def FnExactGainsForWrongFalsely : Prop := fnExactGainsForRow.holds Try.pinned (OpenSpec.ofChange fnExactGainsForWrong)

/-- 'laws.FnExactSetPane': WHATEVER THE INPUT: true; the input reads as it did. -/
def fnExactSetPaneSpec : ChangeSpec := { name := "fnExactSetPane", fn := fun _ => fun
  | [d1, d2, d3] => { results := [.lit (.bool true)], args := [d1, d2, d3] }
  | _ => none }
def fnExactSetPaneRow : OpenClaim := { program := "ytfnfapmncibjfaa", sum := "555a7e3e913c393b7a65210ef080608f9117b0c40aa839c22ffda10795550e06", func := "loop.example/g01229/laws.FnExactSetPane", spec := "fnExactSetPane", inPlace := ["math.Float32bits", "math.Float64bits", "math.Float64frombits"], apart := false }
def FnExactSetPaneSaid : Prop := fnExactSetPaneRow.holds Try.pinned (OpenSpec.ofChange fnExactSetPaneSpec)

/-- ITS FALSE NEIGHBOUR: 'it returns false'. Refute it at one input. -/
def fnExactSetPaneWrong : ChangeSpec := { name := "fnExactSetPane", fn := fun _ => fun
  | [d1, d2, d3] => { results := [.lit (.bool false)], args := [d1, d2, d3] }
  | _ => none }
def FnExactSetPaneWrongFalsely : Prop := fnExactSetPaneRow.holds Try.pinned (OpenSpec.ofChange fnExactSetPaneWrong)

/-- 'laws.FnExactSwapRooms': WHATEVER THE INPUT: true; the input reads as it did. -/
def fnExactSwapRoomsSpec : ChangeSpec := { name := "fnExactSwapRooms", fn := fun _ => fun
  | [d1, d2, d3] => { results := [.lit (.bool true)], args := [d1, d2, d3] }
  | _ => none }
def fnExactSwapRoomsRow : OpenClaim := { program := "ytfnfapmncibjfaa", sum := "555a7e3e913c393b7a65210ef080608f9117b0c40aa839c22ffda10795550e06", func := "loop.example/g01229/laws.FnExactSwapRooms", spec := "fnExactSwapRooms", inPlace := ["math.Float32bits", "math.Float64bits", "math.Float64frombits"], unfollowed := true, recurses := true, apart := false }
def FnExactSwapRoomsSaid : Prop := fnExactSwapRoomsRow.holds Try.pinned (OpenSpec.ofChange fnExactSwapRoomsSpec)

/-- ITS FALSE NEIGHBOUR: 'it returns false'. Refute it at one input. -/
def fnExactSwapRoomsWrong : ChangeSpec := { name := "fnExactSwapRooms", fn := fun _ => fun
  | [d1, d2, d3] => { results := [.lit (.bool false)], args := [d1, d2, d3] }
  | _ => none }
def FnExactSwapRoomsWrongFalsely : Prop := fnExactSwapRoomsRow.holds Try.pinned (OpenSpec.ofChange fnExactSwapRoomsWrong)

/-- 'laws.FnLeads': WHATEVER THE INPUT: true; the input reads as it did. -/
def fnLeadsSpec : ChangeSpec := { name := "fnLeads", fn := fun _ => fun
  | [d1, d2] => { results := [.lit (.bool true)], args := [d1, d2] }
  | _ => none }
def fnLeadsRow : OpenClaim := { program := "ytfnfapmncibjfaa", sum := "555a7e3e913c393b7a65210ef080608f9117b0c40aa839c22ffda10795550e06", func := "loop.example/g01229/laws.FnLeads", spec := "fnLeads", inPlace := ["math.Float64bits", "math.Float64frombits", "math.Float32bits"], apart := false }
def FnLeadsSaid : Prop := fnLeadsRow.holds Try.pinned (OpenSpec.ofChange fnLeadsSpec)

/-- ITS FALSE NEIGHBOUR: 'it returns false'. Refute it at one input. -/
def fnLeadsWrong : ChangeSpec := { name := "fnLeads", fn := fun _ => fun
  | [d1, d2] => { results := [.lit (.bool false)], args := [d1, d2] }
  | _ => none }
def FnLeadsWrongFalsely : Prop := fnLeadsRow.holds Try.pinned (OpenSpec.ofChange fnLeadsWrong)

/-- 'laws.FnExactStepFlat': WHATEVER THE INPUT: true; the input reads as it did. -/
def fnExactStepFlatSpec : ChangeSpec := { name := "fnExactStepFlat", fn := fun _ => fun
  | [d1, d2, d3, d4, d5] => { results := [.lit (.bool true)], args := [d1, d2, d3, d4, d5] }
  | _ => none }
def fnExactStepFlatRow : OpenClaim := { program := "ytfnfapmncibjfaa", sum := "555a7e3e913c393b7a65210ef080608f9117b0c40aa839c22ffda10795550e06", func := "loop.example/g01229/laws.FnExactStepFlat", spec := "fnExactStepFlat", inPlace := ["math.Float32bits", "math.Float64bits", "math.Float64frombits"], apart := false }
def FnExactStepFlatSaid : Prop := fnExactStepFlatRow.holds Try.pinned (OpenSpec.ofChange fnExactStepFlatSpec)

/-- ITS FALSE NEIGHBOUR: 'it returns false'. Refute it at one input. -/
def fnExactStepFlatWrong : ChangeSpec := { name := "fnExactStepFlat", fn := fun _ => fun
  | [d1, d2, d3, d4, d5] => { results := [.lit (.bool false)], args := [d1, d2, d3, d4, d5] }
  | _ => none }
def FnExactStepFlatWrongFalsely : Prop := fnExactStepFlatRow.holds Try.pinned (OpenSpec.ofChange fnExactStepFlatWrong)

/-- 'laws.FnExactStepsFlat': WHATEVER THE INPUT: true; the input reads as it did. -/
def fnExactStepsFlatSpec : ChangeSpec := { name := "fnExactStepsFlat", fn := fun _ => fun
  | [d1, d2, d3, d4, d5, d6] => { results := [.lit (.bool true)], args := [d1, d2, d3, d4, d5, d6] }
  | _ => none }
def fnExactStepsFlatRow : OpenClaim := { program := "ytfnfapmncibjfaa", sum := "555a7e3e913c393b7a65210ef080608f9117b0c40aa839c22ffda10795550e06", func := "loop.example/g01229/laws.FnExactStepsFlat", spec := "fnExactStepsFlat", inPlace := ["math.Float32bits", "math.Float64bits", "math.Float64frombits"], apart := false }
def FnExactStepsFlatSaid : Prop := fnExactStepsFlatRow.holds Try.pinned (OpenSpec.ofChange fnExactStepsFlatSpec)

/-- ITS FALSE NEIGHBOUR: 'it returns false'. Refute it at one input. -/
def fnExactStepsFlatWrong : ChangeSpec := { name := "fnExactStepsFlat", fn := fun _ => fun
  | [d1, d2, d3, d4, d5, d6] => { results := [.lit (.bool false)], args := [d1, d2, d3, d4, d5, d6] }
  | _ => none }
def FnExactStepsFlatWrongFalsely : Prop := fnExactStepsFlatRow.holds Try.pinned (OpenSpec.ofChange fnExactStepsFlatWrong)

/-- 'laws.FnExactStillFlat': WHATEVER THE INPUT: true; the input reads as it did. -/
def fnExactStillFlatSpec : ChangeSpec := { name := "fnExactStillFlat", fn := fun _ => fun
  | [d1, d2, d3, d4] => { results := [.lit (.bool true)], args := [d1, d2, d3, d4] }
  | _ => none }
def fnExactStillFlatRow : OpenClaim := { program := "ytfnfapmncibjfaa", sum := "555a7e3e913c393b7a65210ef080608f9117b0c40aa839c22ffda10795550e06", func := "loop.example/g01229/laws.FnExactStillFlat", spec := "fnExactStillFlat", inPlace := ["math.Float32bits", "math.Float64bits", "math.Float64frombits"], apart := false }
def FnExactStillFlatSaid : Prop := fnExactStillFlatRow.holds Try.pinned (OpenSpec.ofChange fnExactStillFlatSpec)

/-- ITS FALSE NEIGHBOUR: 'it returns false'. Refute it at one input. -/
def fnExactStillFlatWrong : ChangeSpec := { name := "fnExactStillFlat", fn := fun _ => fun
  | [d1, d2, d3, d4] => { results := [.lit (.bool false)], args := [d1, d2, d3, d4] }
  | _ => none }
def FnExactStillFlatWrongFalsely : Prop := fnExactStillFlatRow.holds Try.pinned (OpenSpec.ofChange fnExactStillFlatWrong)

/- THE SECOND FORM. 'bulk': how many values and letters a reading holds, each counted each time it is reached (what is shared counts as often as it is met; a slice's spare places count too). A statement '..UptoSaid' is the law's where the arguments, and the package variables that the reading takes, are together of bulk at most 1048576: NARROWER than '..Said'. Prove '..Said' where nothing that the law and all that it calls make is longer than what came in: it says more and counts as full. Else prove '..UptoSaid'. A law counts once. -/
mutual
def uptoBulk {H : Type} : DataW H → Nat
  | .lit (.string bytes) => bytes.length + 1
  | .lit _ => 1
  | .nil => 1
  | .ptr d => uptoBulk d + 1
  | .slice elems spare => uptoBulkAll elems + uptoBulkAll spare + 1
  | .agg parts => uptoBulkAll parts + 1
  | .iface _ d => uptoBulk d + 1
  | .map entries => uptoBulkEntries entries + 1
  | .held _ => 1
def uptoBulkAll {H : Type} : List (DataW H) → Nat
  | [] => 0
  | d :: r => uptoBulk d + uptoBulkAll r
def uptoBulkEntries {H : Type} : List (Lit × DataW H) → Nat
  | [] => 0
  | x :: r => uptoBulkEntry x + uptoBulkEntries r
def uptoBulkEntry {H : Type} : Lit × DataW H → Nat
  | (.string bytes, d) => bytes.length + uptoBulk d + 1
  | (_, d) => uptoBulk d + 1
 end
def uptoSmall : (H : Type) → List (DataW H) → Bool := fun _ ds => decide (uptoBulkAll ds ≤ 1048576)
def OpenSpec.upto (s : _root_.Go.ChangeSpec) : _root_.Go.OpenSpec := { _root_.Go.OpenSpec.ofChange s with cond := some uptoSmall }

/-- 'laws.FnStill', WHERE WHAT IT READS IS OF BULK AT MOST 1048576: true; the input reads as it did. -/
def fnStillUptoRow : OpenClaim := { program := "ytfnfapmncibjfaa", sum := "555a7e3e913c393b7a65210ef080608f9117b0c40aa839c22ffda10795550e06", func := "loop.example/g01229/laws.FnStill", spec := "fnStill", inPlace := ["math.Float64bits", "math.Float64frombits", "math.Float32bits"], unfollowed := true, recurses := true, apart := false, narrowed := true }
def FnStillUptoSaid : Prop := fnStillUptoRow.holds Try.pinned (OpenSpec.upto fnStillSpec)

/-- 'laws.FnExactEnergyOf', WHERE WHAT IT READS IS OF BULK AT MOST 1048576: true; the input reads as it did. -/
def fnExactEnergyOfUptoRow : OpenClaim := { program := "ytfnfapmncibjfaa", sum := "555a7e3e913c393b7a65210ef080608f9117b0c40aa839c22ffda10795550e06", func := "loop.example/g01229/laws.FnExactEnergyOf", spec := "fnExactEnergyOf", inPlace := ["math.Float32bits", "math.Float64bits", "math.Float64frombits"], apart := false, narrowed := true }
def FnExactEnergyOfUptoSaid : Prop := fnExactEnergyOfUptoRow.holds Try.pinned (OpenSpec.upto fnExactEnergyOfSpec)

/-- 'laws.FnExactGainsFor', WHERE WHAT IT READS IS OF BULK AT MOST 1048576: true; the input reads as it did. -/
def fnExactGainsForUptoRow : OpenClaim := { program := "ytfnfapmncibjfaa", sum := "555a7e3e913c393b7a65210ef080608f9117b0c40aa839c22ffda10795550e06", func := "loop.example/g01229/laws.FnExactGainsFor", spec := "fnExactGainsFor", inPlace := ["math.Float32bits", "math.Float64bits", "math.Float64frombits"], apart := false, narrowed := true }
def FnExactGainsForUptoSaid : Prop := fnExactGainsForUptoRow.holds Try.pinned (OpenSpec.upto fnExactGainsForSpec)

/-- 'laws.FnExactSetPane', WHERE WHAT IT READS IS OF BULK AT MOST 1048576: true; the input reads as it did. -/
def fnExactSetPaneUptoRow : OpenClaim := { program := "ytfnfapmncibjfaa", sum := "555a7e3e913c393b7a65210ef080608f9117b0c40aa839c22ffda10795550e06", func := "loop.example/g01229/laws.FnExactSetPane", spec := "fnExactSetPane", inPlace := ["math.Float32bits", "math.Float64bits", "math.Float64frombits"], apart := false, narrowed := true }
def FnExactSetPaneUptoSaid : Prop := fnExactSetPaneUptoRow.holds Try.pinned (OpenSpec.upto fnExactSetPaneSpec)

/-- 'laws.FnExactSwapRooms', WHERE WHAT IT READS IS OF BULK AT MOST 1048576: true; the input reads as it did. -/
def fnExactSwapRoomsUptoRow : OpenClaim := { program := "ytfnfapmncibjfaa", sum := "555a7e3e913c393b7a65210ef080608f9117b0c40aa839c22ffda10795550e06", func := "loop.example/g01229/laws.FnExactSwapRooms", spec := "fnExactSwapRooms", inPlace := ["math.Float32bits", "math.Float64bits", "math.Float64frombits"], unfollowed := true, recurses := true, apart := false, narrowed := true }
def FnExactSwapRoomsUptoSaid : Prop := fnExactSwapRoomsUptoRow.holds Try.pinned (OpenSpec.upto fnExactSwapRoomsSpec)

/-- 'laws.FnLeads', WHERE WHAT IT READS IS OF BULK AT MOST 1048576: true; the input reads as it did. -/
def fnLeadsUptoRow : OpenClaim := { program := "ytfnfapmncibjfaa", sum := "555a7e3e913c393b7a65210ef080608f9117b0c40aa839c22ffda10795550e06", func := "loop.example/g01229/laws.FnLeads", spec := "fnLeads", inPlace := ["math.Float64bits", "math.Float64frombits", "math.Float32bits"], apart := false, narrowed := true }
def FnLeadsUptoSaid : Prop := fnLeadsUptoRow.holds Try.pinned (OpenSpec.upto fnLeadsSpec)

/-- 'laws.FnExactStepFlat', WHERE WHAT IT READS IS OF BULK AT MOST 1048576: true; the input reads as it did. -/
def fnExactStepFlatUptoRow : OpenClaim := { program := "ytfnfapmncibjfaa", sum := "555a7e3e913c393b7a65210ef080608f9117b0c40aa839c22ffda10795550e06", func := "loop.example/g01229/laws.FnExactStepFlat", spec := "fnExactStepFlat", inPlace := ["math.Float32bits", "math.Float64bits", "math.Float64frombits"], apart := false, narrowed := true }
def FnExactStepFlatUptoSaid : Prop := fnExactStepFlatUptoRow.holds Try.pinned (OpenSpec.upto fnExactStepFlatSpec)

/-- 'laws.FnExactStepsFlat', WHERE WHAT IT READS IS OF BULK AT MOST 1048576: true; the input reads as it did. -/
def fnExactStepsFlatUptoRow : OpenClaim := { program := "ytfnfapmncibjfaa", sum := "555a7e3e913c393b7a65210ef080608f9117b0c40aa839c22ffda10795550e06", func := "loop.example/g01229/laws.FnExactStepsFlat", spec := "fnExactStepsFlat", inPlace := ["math.Float32bits", "math.Float64bits", "math.Float64frombits"], apart := false, narrowed := true }
def FnExactStepsFlatUptoSaid : Prop := fnExactStepsFlatUptoRow.holds Try.pinned (OpenSpec.upto fnExactStepsFlatSpec)

/-- 'laws.FnExactStillFlat', WHERE WHAT IT READS IS OF BULK AT MOST 1048576: true; the input reads as it did. -/
def fnExactStillFlatUptoRow : OpenClaim := { program := "ytfnfapmncibjfaa", sum := "555a7e3e913c393b7a65210ef080608f9117b0c40aa839c22ffda10795550e06", func := "loop.example/g01229/laws.FnExactStillFlat", spec := "fnExactStillFlat", inPlace := ["math.Float32bits", "math.Float64bits", "math.Float64frombits"], apart := false, narrowed := true }
def FnExactStillFlatUptoSaid : Prop := fnExactStillFlatUptoRow.holds Try.pinned (OpenSpec.upto fnExactStillFlatSpec)

end Rows
end Go.Proofs.Ytfnfapmncibjfaa
