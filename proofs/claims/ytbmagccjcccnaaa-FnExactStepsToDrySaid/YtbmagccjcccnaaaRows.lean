/-
  No cell of these rows narrows 'for every input' (looked for: loops, veiled, ifaces, maps, wideKeys, modest, calm, conditions, laid).
  DERIVED. THE GIVEN ROWS OF THIS SEAT. 8 by the template 'for every input the law returns true; each argument reads behind the call as it read before'; 0 by the template 'total and deterministic' (their statements: YtbmagccjcccnaaaTotals.lean).
  GIVEN WITH THE SEED: the statements are not yours to turn. If you find one false, say at which input.
  Laid BY PROGRAM, IN A SANDBOX (cutbox-rows.mjs): the forced cells as the released guide's own fill.sh prints them over the translation 7658a9acc1949e60… (all of the seat's roots in one cut). By AI agents, Wed Nov 11 2026. No macro, syntax, notation, axiom, sorry.
-/
import Derived.Test.YtbmagccjcccnaaaChecked
import GoSem.Claim
import GoSem.ClaimJoined
import GoSem.ClaimMapViews
import Derived.JoinedTies
import Derived.KernelRfl
namespace Go.Proofs.Ytbmagccjcccnaaa
/- THE CELL 'sum', in the pinned program and in every row, IS THE sha256 OF THE DUMP (.gsa) THAT YtbmagccjcccnaaaProg.lean LOADS. Nothing in Lean hashes anything: it is a label: what it is worth is what the hold of that sum in a sandbox is worth. -/
noncomputable def Try.pinned : Pinned := { name := "ytbmagccjcccnaaa", sum := "7658a9acc1949e6008a67c5ec03abc498cf637cdbc3175f8345e6eb66a602b1c", checked := Try.checked }
namespace Rows
def none {H : Type} : Left H := { results := [], args := [] }

/-- 'laws.FnExactFuelOf': WHATEVER THE INPUT: true; the input reads as it did. -/
def fnExactFuelOfSpec : ChangeSpec := { name := "fnExactFuelOf", fn := fun _ => fun
  | [d] => { results := [.lit (.bool true)], args := [d] }
  | _ => none }
def fnExactFuelOfRow : OpenClaim := { program := "ytbmagccjcccnaaa", sum := "7658a9acc1949e6008a67c5ec03abc498cf637cdbc3175f8345e6eb66a602b1c", func := "loop.example/g01229/laws.FnExactFuelOf", spec := "fnExactFuelOf", inPlace := ["math.Float32bits", "math.Float64bits", "math.Float64frombits"], apart := false }
def FnExactFuelOfSaid : Prop := fnExactFuelOfRow.holds Try.pinned (OpenSpec.ofChange fnExactFuelOfSpec)

/-- ITS FALSE NEIGHBOUR: 'it returns false'. Refute it at one input. -/
def fnExactFuelOfWrong : ChangeSpec := { name := "fnExactFuelOf", fn := fun _ => fun
  | [d] => { results := [.lit (.bool false)], args := [d] }
  | _ => none }
def FnExactFuelOfWrongFalsely : Prop := fnExactFuelOfRow.holds Try.pinned (OpenSpec.ofChange fnExactFuelOfWrong)

/-- 'laws.FnExactMeanHeat': WHATEVER THE INPUT: true; the input reads as it did. -/
def fnExactMeanHeatSpec : ChangeSpec := { name := "fnExactMeanHeat", fn := fun _ => fun
  | [d] => { results := [.lit (.bool true)], args := [d] }
  | _ => none }
def fnExactMeanHeatRow : OpenClaim := { program := "ytbmagccjcccnaaa", sum := "7658a9acc1949e6008a67c5ec03abc498cf637cdbc3175f8345e6eb66a602b1c", func := "loop.example/g01229/laws.FnExactMeanHeat", spec := "fnExactMeanHeat", inPlace := ["math.Float32bits", "math.Float64bits", "math.Float64frombits"], apart := false }
def FnExactMeanHeatSaid : Prop := fnExactMeanHeatRow.holds Try.pinned (OpenSpec.ofChange fnExactMeanHeatSpec)

/-- ITS FALSE NEIGHBOUR: 'it returns false'. Refute it at one input. -/
def fnExactMeanHeatWrong : ChangeSpec := { name := "fnExactMeanHeat", fn := fun _ => fun
  | [d] => { results := [.lit (.bool false)], args := [d] }
  | _ => none }
def FnExactMeanHeatWrongFalsely : Prop := fnExactMeanHeatRow.holds Try.pinned (OpenSpec.ofChange fnExactMeanHeatWrong)

/-- 'laws.FnExactWaterOf': WHATEVER THE INPUT: true; the input reads as it did. -/
def fnExactWaterOfSpec : ChangeSpec := { name := "fnExactWaterOf", fn := fun _ => fun
  | [d] => { results := [.lit (.bool true)], args := [d] }
  | _ => none }
def fnExactWaterOfRow : OpenClaim := { program := "ytbmagccjcccnaaa", sum := "7658a9acc1949e6008a67c5ec03abc498cf637cdbc3175f8345e6eb66a602b1c", func := "loop.example/g01229/laws.FnExactWaterOf", spec := "fnExactWaterOf", inPlace := ["math.Float32bits", "math.Float64bits", "math.Float64frombits"], apart := false }
def FnExactWaterOfSaid : Prop := fnExactWaterOfRow.holds Try.pinned (OpenSpec.ofChange fnExactWaterOfSpec)

/-- ITS FALSE NEIGHBOUR: 'it returns false'. Refute it at one input. -/
def fnExactWaterOfWrong : ChangeSpec := { name := "fnExactWaterOf", fn := fun _ => fun
  | [d] => { results := [.lit (.bool false)], args := [d] }
  | _ => none }
def FnExactWaterOfWrongFalsely : Prop := fnExactWaterOfRow.holds Try.pinned (OpenSpec.ofChange fnExactWaterOfWrong)

/-- 'laws.FnExactFuelIn': WHATEVER THE INPUT: true; the input reads as it did. -/
def fnExactFuelInSpec : ChangeSpec := { name := "fnExactFuelIn", fn := fun _ => fun
  | [d] => { results := [.lit (.bool true)], args := [d] }
  | _ => none }
def fnExactFuelInRow : OpenClaim := { program := "ytbmagccjcccnaaa", sum := "7658a9acc1949e6008a67c5ec03abc498cf637cdbc3175f8345e6eb66a602b1c", func := "loop.example/g01229/laws.FnExactFuelIn", spec := "fnExactFuelIn", inPlace := ["math.Float32bits", "math.Float64bits", "math.Float64frombits"], apart := false }
def FnExactFuelInSaid : Prop := fnExactFuelInRow.holds Try.pinned (OpenSpec.ofChange fnExactFuelInSpec)

/-- ITS FALSE NEIGHBOUR: 'it returns false'. Refute it at one input. -/
def fnExactFuelInWrong : ChangeSpec := { name := "fnExactFuelIn", fn := fun _ => fun
  | [d] => { results := [.lit (.bool false)], args := [d] }
  | _ => none }
def FnExactFuelInWrongFalsely : Prop := fnExactFuelInRow.holds Try.pinned (OpenSpec.ofChange fnExactFuelInWrong)

/-- 'laws.FnExactDropSpent': WHATEVER THE INPUT: true; the input reads as it did. -/
def fnExactDropSpentSpec : ChangeSpec := { name := "fnExactDropSpent", fn := fun _ => fun
  | [d] => { results := [.lit (.bool true)], args := [d] }
  | _ => none }
def fnExactDropSpentRow : OpenClaim := { program := "ytbmagccjcccnaaa", sum := "7658a9acc1949e6008a67c5ec03abc498cf637cdbc3175f8345e6eb66a602b1c", func := "loop.example/g01229/laws.FnExactDropSpent", spec := "fnExactDropSpent", inPlace := ["math.Float32bits", "math.Float64bits", "math.Float64frombits"], apart := false }
def FnExactDropSpentSaid : Prop := fnExactDropSpentRow.holds Try.pinned (OpenSpec.ofChange fnExactDropSpentSpec)

/-- ITS FALSE NEIGHBOUR: 'it returns false'. Refute it at one input. -/
def fnExactDropSpentWrong : ChangeSpec := { name := "fnExactDropSpent", fn := fun _ => fun
  | [d] => { results := [.lit (.bool false)], args := [d] }
  | _ => none }
def FnExactDropSpentWrongFalsely : Prop := fnExactDropSpentRow.holds Try.pinned (OpenSpec.ofChange fnExactDropSpentWrong)

/-- 'laws.FnExactStepsToDry': WHATEVER THE INPUT: true; the input reads as it did. -/
def fnExactStepsToDrySpec : ChangeSpec := { name := "fnExactStepsToDry", fn := fun _ => fun
  | [d1, d2, d3, d4] => { results := [.lit (.bool true)], args := [d1, d2, d3, d4] }
  | _ => none }
def fnExactStepsToDryRow : OpenClaim := { program := "ytbmagccjcccnaaa", sum := "7658a9acc1949e6008a67c5ec03abc498cf637cdbc3175f8345e6eb66a602b1c", func := "loop.example/g01229/laws.FnExactStepsToDry", spec := "fnExactStepsToDry", inPlace := ["math.Float32bits", "math.Float64bits", "math.Float64frombits"], apart := false }
def FnExactStepsToDrySaid : Prop := fnExactStepsToDryRow.holds Try.pinned (OpenSpec.ofChange fnExactStepsToDrySpec)

/-- ITS FALSE NEIGHBOUR: 'it returns false'. Refute it at one input. -/
def fnExactStepsToDryWrong : ChangeSpec := { name := "fnExactStepsToDry", fn := fun _ => fun
  | [d1, d2, d3, d4] => { results := [.lit (.bool false)], args := [d1, d2, d3, d4] }
  | _ => none }
def FnExactStepsToDryWrongFalsely : Prop := fnExactStepsToDryRow.holds Try.pinned (OpenSpec.ofChange fnExactStepsToDryWrong)

/-- 'laws.FnBurnt': WHATEVER THE INPUT: true; the input reads as it did. -/
def fnBurntSpec : ChangeSpec := { name := "fnBurnt", fn := fun _ => fun
  | [d1, d2] => { results := [.lit (.bool true)], args := [d1, d2] }
  | _ => none }
def fnBurntRow : OpenClaim := { program := "ytbmagccjcccnaaa", sum := "7658a9acc1949e6008a67c5ec03abc498cf637cdbc3175f8345e6eb66a602b1c", func := "loop.example/g01229/laws.FnBurnt", spec := "fnBurnt", inPlace := ["math.Float64bits", "math.Float64frombits", "math.Float32bits"], apart := false }
def FnBurntSaid : Prop := fnBurntRow.holds Try.pinned (OpenSpec.ofChange fnBurntSpec)

/-- ITS FALSE NEIGHBOUR: 'it returns false'. Refute it at one input. -/
def fnBurntWrong : ChangeSpec := { name := "fnBurnt", fn := fun _ => fun
  | [d1, d2] => { results := [.lit (.bool false)], args := [d1, d2] }
  | _ => none }
def FnBurntWrongFalsely : Prop := fnBurntRow.holds Try.pinned (OpenSpec.ofChange fnBurntWrong)

/-- 'laws.FnStates': WHATEVER THE INPUT: true; the input reads as it did. -/
def fnStatesSpec : ChangeSpec := { name := "fnStates", fn := fun _ => fun
  | [d1, d2] => { results := [.lit (.bool true)], args := [d1, d2] }
  | _ => none }
def fnStatesRow : OpenClaim := { program := "ytbmagccjcccnaaa", sum := "7658a9acc1949e6008a67c5ec03abc498cf637cdbc3175f8345e6eb66a602b1c", func := "loop.example/g01229/laws.FnStates", spec := "fnStates", inPlace := ["math.Float64bits", "math.Float64frombits", "math.Float32bits", "math.archFloor", "math.archTrunc"], apart := false }
def FnStatesSaid : Prop := fnStatesRow.holds Try.pinned (OpenSpec.ofChange fnStatesSpec)

/-- ITS FALSE NEIGHBOUR: 'it returns false'. Refute it at one input. -/
def fnStatesWrong : ChangeSpec := { name := "fnStates", fn := fun _ => fun
  | [d1, d2] => { results := [.lit (.bool false)], args := [d1, d2] }
  | _ => none }
def FnStatesWrongFalsely : Prop := fnStatesRow.holds Try.pinned (OpenSpec.ofChange fnStatesWrong)

/- THE SECOND FORM. 'bulk': how many values and letters a reading holds, each counted each time it is reached (what is shared counts as often as it is met; a slice's spare places count too). A statement '..UptoSaid' is the law's where the arguments, and the package variables that the reading takes, are together of bulk at most 1048576: NARROWER than '..Said'. Prove '..Said' where nothing that the law and all that it calls make is longer than what came in: it says more and counts as full. Else prove '..UptoSaid'. A law counts once. -/
mutual
def uptoBulk {H : Type} : DataW H → Nat
  | .lit (.string bytes) => bytes.length + 1
  | .lit _ => 1
  | .nil => 1
  | .ptr d => uptoBulk d + 1
  | .slice elems spare => uptoBulkAll elems + uptoBulkAll spare + 1
  | .agg parts => uptoBulkAll parts + 1
  | .iface _ d => uptoBulk d + 1
  | .map entries => uptoBulkEntries entries + 1
  | .held _ => 1
def uptoBulkAll {H : Type} : List (DataW H) → Nat
  | [] => 0
  | d :: r => uptoBulk d + uptoBulkAll r
def uptoBulkEntries {H : Type} : List (Lit × DataW H) → Nat
  | [] => 0
  | x :: r => uptoBulkEntry x + uptoBulkEntries r
def uptoBulkEntry {H : Type} : Lit × DataW H → Nat
  | (.string bytes, d) => bytes.length + uptoBulk d + 1
  | (_, d) => uptoBulk d + 1
 end
def uptoSmall : (H : Type) → List (DataW H) → Bool := fun _ ds => decide (uptoBulkAll ds ≤ 1048576)
def OpenSpec.upto (s : _root_.Go.ChangeSpec) : _root_.Go.OpenSpec := { _root_.Go.OpenSpec.ofChange s with cond := some uptoSmall }

/-- 'laws.FnExactFuelOf', WHERE WHAT IT READS IS OF BULK AT MOST 1048576: true; the input reads as it did. -/
def fnExactFuelOfUptoRow : OpenClaim := { program := "ytbmagccjcccnaaa", sum := "7658a9acc1949e6008a67c5ec03abc498cf637cdbc3175f8345e6eb66a602b1c", func := "loop.example/g01229/laws.FnExactFuelOf", spec := "fnExactFuelOf", inPlace := ["math.Float32bits", "math.Float64bits", "math.Float64frombits"], apart := false, narrowed := true }
def FnExactFuelOfUptoSaid : Prop := fnExactFuelOfUptoRow.holds Try.pinned (OpenSpec.upto fnExactFuelOfSpec)

/-- 'laws.FnExactMeanHeat', WHERE WHAT IT READS IS OF BULK AT MOST 1048576: true; the input reads as it did. -/
def fnExactMeanHeatUptoRow : OpenClaim := { program := "ytbmagccjcccnaaa", sum := "7658a9acc1949e6008a67c5ec03abc498cf637cdbc3175f8345e6eb66a602b1c", func := "loop.example/g01229/laws.FnExactMeanHeat", spec := "fnExactMeanHeat", inPlace := ["math.Float32bits", "math.Float64bits", "math.Float64frombits"], apart := false, narrowed := true }
def FnExactMeanHeatUptoSaid : Prop := fnExactMeanHeatUptoRow.holds Try.pinned (OpenSpec.upto fnExactMeanHeatSpec)

/-- 'laws.FnExactWaterOf', WHERE WHAT IT READS IS OF BULK AT MOST 1048576: true; the input reads as it did. -/
def fnExactWaterOfUptoRow : OpenClaim := { program := "ytbmagccjcccnaaa", sum := "7658a9acc1949e6008a67c5ec03abc498cf637cdbc3175f8345e6eb66a602b1c", func := "loop.example/g01229/laws.FnExactWaterOf", spec := "fnExactWaterOf", inPlace := ["math.Float32bits", "math.Float64bits", "math.Float64frombits"], apart := false, narrowed := true }
def FnExactWaterOfUptoSaid : Prop := fnExactWaterOfUptoRow.holds Try.pinned (OpenSpec.upto fnExactWaterOfSpec)

/-- 'laws.FnExactFuelIn', WHERE WHAT IT READS IS OF BULK AT MOST 1048576: true; the input reads as it did. -/
def fnExactFuelInUptoRow : OpenClaim := { program := "ytbmagccjcccnaaa", sum := "7658a9acc1949e6008a67c5ec03abc498cf637cdbc3175f8345e6eb66a602b1c", func := "loop.example/g01229/laws.FnExactFuelIn", spec := "fnExactFuelIn", inPlace := ["math.Float32bits", "math.Float64bits", "math.Float64frombits"], apart := false, narrowed := true }
def FnExactFuelInUptoSaid : Prop := fnExactFuelInUptoRow.holds Try.pinned (OpenSpec.upto fnExactFuelInSpec)

/-- 'laws.FnExactDropSpent', WHERE WHAT IT READS IS OF BULK AT MOST 1048576: true; the input reads as it did. -/
def fnExactDropSpentUptoRow : OpenClaim := { program := "ytbmagccjcccnaaa", sum := "7658a9acc1949e6008a67c5ec03abc498cf637cdbc3175f8345e6eb66a602b1c", func := "loop.example/g01229/laws.FnExactDropSpent", spec := "fnExactDropSpent", inPlace := ["math.Float32bits", "math.Float64bits", "math.Float64frombits"], apart := false, narrowed := true }
def FnExactDropSpentUptoSaid : Prop := fnExactDropSpentUptoRow.holds Try.pinned (OpenSpec.upto fnExactDropSpentSpec)

/-- 'laws.FnExactStepsToDry', WHERE WHAT IT READS IS OF BULK AT MOST 1048576: true; the input reads as it did. -/
def fnExactStepsToDryUptoRow : OpenClaim := { program := "ytbmagccjcccnaaa", sum := "7658a9acc1949e6008a67c5ec03abc498cf637cdbc3175f8345e6eb66a602b1c", func := "loop.example/g01229/laws.FnExactStepsToDry", spec := "fnExactStepsToDry", inPlace := ["math.Float32bits", "math.Float64bits", "math.Float64frombits"], apart := false, narrowed := true }
def FnExactStepsToDryUptoSaid : Prop := fnExactStepsToDryUptoRow.holds Try.pinned (OpenSpec.upto fnExactStepsToDrySpec)

/-- 'laws.FnBurnt', WHERE WHAT IT READS IS OF BULK AT MOST 1048576: true; the input reads as it did. -/
def fnBurntUptoRow : OpenClaim := { program := "ytbmagccjcccnaaa", sum := "7658a9acc1949e6008a67c5ec03abc498cf637cdbc3175f8345e6eb66a602b1c", func := "loop.example/g01229/laws.FnBurnt", spec := "fnBurnt", inPlace := ["math.Float64bits", "math.Float64frombits", "math.Float32bits"], apart := false, narrowed := true }
def FnBurntUptoSaid : Prop := fnBurntUptoRow.holds Try.pinned (OpenSpec.upto fnBurntSpec)

/-- 'laws.FnStates', WHERE WHAT IT READS IS OF BULK AT MOST 1048576: true; the input reads as it did. -/
def fnStatesUptoRow : OpenClaim := { program := "ytbmagccjcccnaaa", sum := "7658a9acc1949e6008a67c5ec03abc498cf637cdbc3175f8345e6eb66a602b1c", func := "loop.example/g01229/laws.FnStates", spec := "fnStates", inPlace := ["math.Float64bits", "math.Float64frombits", "math.Float32bits", "math.archFloor", "math.archTrunc"], apart := false, narrowed := true }
def FnStatesUptoSaid : Prop := fnStatesUptoRow.holds Try.pinned (OpenSpec.upto fnStatesSpec)

end Rows
end Go.Proofs.Ytbmagccjcccnaaa
