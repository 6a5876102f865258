/-
  No cell of these rows narrows 'for every input' (looked for: loops, veiled, ifaces, maps, wideKeys, modest, calm, conditions, laid).
  DERIVED. THE GIVEN ROWS OF THIS SEAT. 7 by the template 'for every input the law returns true; each argument reads behind the call as it read before'; 0 by the template 'total and deterministic' (their statements: YtfclciebpnnieaaTotals.lean).
  GIVEN WITH THE SEED: the statements are not yours to turn. If you find one false, say at which input.
  Laid BY PROGRAM, IN A SANDBOX (cutbox-rows.mjs): the forced cells as the released guide's own fill.sh prints them over the translation 6aa40aef9466aa2c… (all of the seat's roots in one cut). By AI agents, Wed Nov 11 2026. No macro, syntax, notation, axiom, sorry.
-/
import Derived.Test.YtfclciebpnnieaaChecked
import GoSem.Claim
import GoSem.ClaimJoined
import GoSem.ClaimMapViews
import Derived.JoinedTies
import Derived.KernelRfl
namespace Go.Proofs.Ytfclciebpnnieaa
/- THE CELL 'sum', in the pinned program and in every row, IS THE sha256 OF THE DUMP (.gsa) THAT YtfclciebpnnieaaProg.lean LOADS. Nothing in Lean hashes anything: it is a label: what it is worth is what the hold of that sum in a sandbox is worth. -/
noncomputable def Try.pinned : Pinned := { name := "ytfclciebpnnieaa", sum := "6aa40aef9466aa2ccb0dba8d6880a4fcf4b6467c5675b229c74c84e2912054f4", checked := Try.checked }
namespace Rows
def none {H : Type} : Left H := { results := [], args := [] }

/-- 'laws.FnExactSameProgram': WHATEVER THE INPUT: true; the input reads as it did. -/
def fnExactSameProgramSpec : ChangeSpec := { name := "fnExactSameProgram", fn := fun _ => fun
  | [d1, d2] => { results := [.lit (.bool true)], args := [d1, d2] }
  | _ => none }
def fnExactSameProgramRow : OpenClaim := { program := "ytfclciebpnnieaa", sum := "6aa40aef9466aa2ccb0dba8d6880a4fcf4b6467c5675b229c74c84e2912054f4", func := "loop.example/g01229/laws.FnExactSameProgram", spec := "fnExactSameProgram", inPlace := ["math.Float32bits"], apart := false }
def FnExactSameProgramSaid : Prop := fnExactSameProgramRow.holds Try.pinned (OpenSpec.ofChange fnExactSameProgramSpec)

/-- ITS FALSE NEIGHBOUR: 'it returns false'. Refute it at one input. -/
def fnExactSameProgramWrong : ChangeSpec := { name := "fnExactSameProgram", fn := fun _ => fun
  | [d1, d2] => { results := [.lit (.bool false)], args := [d1, d2] }
  | _ => none }
def FnExactSameProgramWrongFalsely : Prop := fnExactSameProgramRow.holds Try.pinned (OpenSpec.ofChange fnExactSameProgramWrong)

/-- 'laws.FnExactValidProgram': WHATEVER THE INPUT: true; the input reads as it did. -/
def fnExactValidProgramSpec : ChangeSpec := { name := "fnExactValidProgram", fn := fun _ => fun
  | [d] => { results := [.lit (.bool true)], args := [d] }
  | _ => none }
def fnExactValidProgramRow : OpenClaim := { program := "ytfclciebpnnieaa", sum := "6aa40aef9466aa2ccb0dba8d6880a4fcf4b6467c5675b229c74c84e2912054f4", func := "loop.example/g01229/laws.FnExactValidProgram", spec := "fnExactValidProgram", inPlace := ["math.Float32bits", "math.Float64bits", "math.Float64frombits"], apart := false }
def FnExactValidProgramSaid : Prop := fnExactValidProgramRow.holds Try.pinned (OpenSpec.ofChange fnExactValidProgramSpec)

/-- ITS FALSE NEIGHBOUR: 'it returns false'. Refute it at one input. -/
def fnExactValidProgramWrong : ChangeSpec := { name := "fnExactValidProgram", fn := fun _ => fun
  | [d] => { results := [.lit (.bool false)], args := [d] }
  | _ => none }
def FnExactValidProgramWrongFalsely : Prop := fnExactValidProgramRow.holds Try.pinned (OpenSpec.ofChange fnExactValidProgramWrong)

/-- 'laws.FnExactValueIn': WHATEVER THE INPUT: true; the input reads as it did. -/
def fnExactValueInSpec : ChangeSpec := { name := "fnExactValueIn", fn := fun _ => fun
  | [d1, d2, d3] => { results := [.lit (.bool true)], args := [d1, d2, d3] }
  | _ => none }
def fnExactValueInRow : OpenClaim := { program := "ytfclciebpnnieaa", sum := "6aa40aef9466aa2ccb0dba8d6880a4fcf4b6467c5675b229c74c84e2912054f4", func := "loop.example/g01229/laws.FnExactValueIn", spec := "fnExactValueIn", inPlace := ["math.Float32bits", "math.Float64bits", "math.Float64frombits"], unfollowed := true, recurses := true, apart := false }
def FnExactValueInSaid : Prop := fnExactValueInRow.holds Try.pinned (OpenSpec.ofChange fnExactValueInSpec)

/-- ITS FALSE NEIGHBOUR: 'it returns false'. Refute it at one input. -/
def fnExactValueInWrong : ChangeSpec := { name := "fnExactValueIn", fn := fun _ => fun
  | [d1, d2, d3] => { results := [.lit (.bool false)], args := [d1, d2, d3] }
  | _ => none }
def FnExactValueInWrongFalsely : Prop := fnExactValueInRow.holds Try.pinned (OpenSpec.ofChange fnExactValueInWrong)

/-- 'laws.FnExactRunProgram': WHATEVER THE INPUT: true; the input reads as it did. -/
def fnExactRunProgramSpec : ChangeSpec := { name := "fnExactRunProgram", fn := fun _ => fun
  | [d1, d2] => { results := [.lit (.bool true)], args := [d1, d2] }
  | _ => none }
def fnExactRunProgramRow : OpenClaim := { program := "ytfclciebpnnieaa", sum := "6aa40aef9466aa2ccb0dba8d6880a4fcf4b6467c5675b229c74c84e2912054f4", func := "loop.example/g01229/laws.FnExactRunProgram", spec := "fnExactRunProgram", inPlace := ["math.Float32bits", "math.Float64bits", "math.Float64frombits"], unfollowed := true, recurses := true, apart := false }
def FnExactRunProgramSaid : Prop := fnExactRunProgramRow.holds Try.pinned (OpenSpec.ofChange fnExactRunProgramSpec)

/-- ITS FALSE NEIGHBOUR: 'it returns false'. Refute it at one input. -/
def fnExactRunProgramWrong : ChangeSpec := { name := "fnExactRunProgram", fn := fun _ => fun
  | [d1, d2] => { results := [.lit (.bool false)], args := [d1, d2] }
  | _ => none }
def FnExactRunProgramWrongFalsely : Prop := fnExactRunProgramRow.holds Try.pinned (OpenSpec.ofChange fnExactRunProgramWrong)

/-- 'laws.FnExactIsProved': WHATEVER THE INPUT: true; the input reads as it did. -/
def fnExactIsProvedSpec : ChangeSpec := { name := "fnExactIsProved", fn := fun _ => fun
  | [d1, d2, d3, d4] => { results := [.lit (.bool true)], args := [d1, d2, d3, d4] }
  | _ => none }
def fnExactIsProvedRow : OpenClaim := { program := "ytfclciebpnnieaa", sum := "6aa40aef9466aa2ccb0dba8d6880a4fcf4b6467c5675b229c74c84e2912054f4", func := "loop.example/g01229/laws.FnExactIsProved", spec := "fnExactIsProved", inPlace := ["math.Float32bits", "math.Float64frombits", "math.Float32frombits", "math.Float64bits"], unfollowed := true, recurses := true, apart := false }
def FnExactIsProvedSaid : Prop := fnExactIsProvedRow.holds Try.pinned (OpenSpec.ofChange fnExactIsProvedSpec)

/-- ITS FALSE NEIGHBOUR: 'it returns false'. Refute it at one input. -/
def fnExactIsProvedWrong : ChangeSpec := { name := "fnExactIsProved", fn := fun _ => fun
  | [d1, d2, d3, d4] => { results := [.lit (.bool false)], args := [d1, d2, d3, d4] }
  | _ => none }
def FnExactIsProvedWrongFalsely : Prop := fnExactIsProvedRow.holds Try.pinned (OpenSpec.ofChange fnExactIsProvedWrong)

/-- 'laws.FnExactProveProgram': WHATEVER THE INPUT: true; the input reads as it did. -/
def fnExactProveProgramSpec : ChangeSpec := { name := "fnExactProveProgram", fn := fun _ => fun
  | [d1, d2] => { results := [.lit (.bool true)], args := [d1, d2] }
  | _ => none }
def fnExactProveProgramRow : OpenClaim := { program := "ytfclciebpnnieaa", sum := "6aa40aef9466aa2ccb0dba8d6880a4fcf4b6467c5675b229c74c84e2912054f4", func := "loop.example/g01229/laws.FnExactProveProgram", spec := "fnExactProveProgram", inPlace := ["math.Float32bits", "math.Float64frombits", "math.Float32frombits", "math.Float64bits"], unfollowed := true, recurses := true, apart := false }
def FnExactProveProgramSaid : Prop := fnExactProveProgramRow.holds Try.pinned (OpenSpec.ofChange fnExactProveProgramSpec)

/-- ITS FALSE NEIGHBOUR: 'it returns false'. Refute it at one input. -/
def fnExactProveProgramWrong : ChangeSpec := { name := "fnExactProveProgram", fn := fun _ => fun
  | [d1, d2] => { results := [.lit (.bool false)], args := [d1, d2] }
  | _ => none }
def FnExactProveProgramWrongFalsely : Prop := fnExactProveProgramRow.holds Try.pinned (OpenSpec.ofChange fnExactProveProgramWrong)

/-- 'laws.FnExactNarrowInput': WHATEVER THE INPUT: true; the input reads as it did. -/
def fnExactNarrowInputSpec : ChangeSpec := { name := "fnExactNarrowInput", fn := fun _ => fun
  | [d1, d2, d3, d4, d5, d6] => { results := [.lit (.bool true)], args := [d1, d2, d3, d4, d5, d6] }
  | _ => none }
def fnExactNarrowInputRow : OpenClaim := { program := "ytfclciebpnnieaa", sum := "6aa40aef9466aa2ccb0dba8d6880a4fcf4b6467c5675b229c74c84e2912054f4", func := "loop.example/g01229/laws.FnExactNarrowInput", spec := "fnExactNarrowInput", inPlace := ["math.Float32bits", "math.Float64frombits", "math.Float32frombits", "math.Float64bits"], unfollowed := true, recurses := true, apart := false }
def FnExactNarrowInputSaid : Prop := fnExactNarrowInputRow.holds Try.pinned (OpenSpec.ofChange fnExactNarrowInputSpec)

/-- ITS FALSE NEIGHBOUR: 'it returns false'. Refute it at one input. -/
def fnExactNarrowInputWrong : ChangeSpec := { name := "fnExactNarrowInput", fn := fun _ => fun
  | [d1, d2, d3, d4, d5, d6] => { results := [.lit (.bool false)], args := [d1, d2, d3, d4, d5, d6] }
  | _ => none }
def FnExactNarrowInputWrongFalsely : Prop := fnExactNarrowInputRow.holds Try.pinned (OpenSpec.ofChange fnExactNarrowInputWrong)

/- THE SECOND FORM. 'bulk': how many values and letters a reading holds, each counted each time it is reached (what is shared counts as often as it is met; a slice's spare places count too). A statement '..UptoSaid' is the law's where the arguments, and the package variables that the reading takes, are together of bulk at most 1048576: NARROWER than '..Said'. Prove '..Said' where nothing that the law and all that it calls make is longer than what came in: it says more and counts as full. Else prove '..UptoSaid'. A law counts once. -/
mutual
def uptoBulk {H : Type} : DataW H → Nat
  | .lit (.string bytes) => bytes.length + 1
  | .lit _ => 1
  | .nil => 1
  | .ptr d => uptoBulk d + 1
  | .slice elems spare => uptoBulkAll elems + uptoBulkAll spare + 1
  | .agg parts => uptoBulkAll parts + 1
  | .iface _ d => uptoBulk d + 1
  | .map entries => uptoBulkEntries entries + 1
  | .held _ => 1
def uptoBulkAll {H : Type} : List (DataW H) → Nat
  | [] => 0
  | d :: r => uptoBulk d + uptoBulkAll r
def uptoBulkEntries {H : Type} : List (Lit × DataW H) → Nat
  | [] => 0
  | x :: r => uptoBulkEntry x + uptoBulkEntries r
def uptoBulkEntry {H : Type} : Lit × DataW H → Nat
  | (.string bytes, d) => bytes.length + uptoBulk d + 1
  | (_, d) => uptoBulk d + 1
 end
def uptoSmall : (H : Type) → List (DataW H) → Bool := fun _ ds => decide (uptoBulkAll ds ≤ 1048576)
def OpenSpec.upto (s : _root_.Go.ChangeSpec) : _root_.Go.OpenSpec := { _root_.Go.OpenSpec.ofChange s with cond := some uptoSmall }

/-- 'laws.FnExactSameProgram', WHERE WHAT IT READS IS OF BULK AT MOST 1048576: true; the input reads as it did. -/
def fnExactSameProgramUptoRow : OpenClaim := { program := "ytfclciebpnnieaa", sum := "6aa40aef9466aa2ccb0dba8d6880a4fcf4b6467c5675b229c74c84e2912054f4", func := "loop.example/g01229/laws.FnExactSameProgram", spec := "fnExactSameProgram", inPlace := ["math.Float32bits"], apart := false, narrowed := true }
def FnExactSameProgramUptoSaid : Prop := fnExactSameProgramUptoRow.holds Try.pinned (OpenSpec.upto fnExactSameProgramSpec)

/-- 'laws.FnExactValidProgram', WHERE WHAT IT READS IS OF BULK AT MOST 1048576: true; the input reads as it did. -/
def fnExactValidProgramUptoRow : OpenClaim := { program := "ytfclciebpnnieaa", sum := "6aa40aef9466aa2ccb0dba8d6880a4fcf4b6467c5675b229c74c84e2912054f4", func := "loop.example/g01229/laws.FnExactValidProgram", spec := "fnExactValidProgram", inPlace := ["math.Float32bits", "math.Float64bits", "math.Float64frombits"], apart := false, narrowed := true }
def FnExactValidProgramUptoSaid : Prop := fnExactValidProgramUptoRow.holds Try.pinned (OpenSpec.upto fnExactValidProgramSpec)

/-- 'laws.FnExactValueIn', WHERE WHAT IT READS IS OF BULK AT MOST 1048576: true; the input reads as it did. -/
def fnExactValueInUptoRow : OpenClaim := { program := "ytfclciebpnnieaa", sum := "6aa40aef9466aa2ccb0dba8d6880a4fcf4b6467c5675b229c74c84e2912054f4", func := "loop.example/g01229/laws.FnExactValueIn", spec := "fnExactValueIn", inPlace := ["math.Float32bits", "math.Float64bits", "math.Float64frombits"], unfollowed := true, recurses := true, apart := false, narrowed := true }
def FnExactValueInUptoSaid : Prop := fnExactValueInUptoRow.holds Try.pinned (OpenSpec.upto fnExactValueInSpec)

/-- 'laws.FnExactRunProgram', WHERE WHAT IT READS IS OF BULK AT MOST 1048576: true; the input reads as it did. -/
def fnExactRunProgramUptoRow : OpenClaim := { program := "ytfclciebpnnieaa", sum := "6aa40aef9466aa2ccb0dba8d6880a4fcf4b6467c5675b229c74c84e2912054f4", func := "loop.example/g01229/laws.FnExactRunProgram", spec := "fnExactRunProgram", inPlace := ["math.Float32bits", "math.Float64bits", "math.Float64frombits"], unfollowed := true, recurses := true, apart := false, narrowed := true }
def FnExactRunProgramUptoSaid : Prop := fnExactRunProgramUptoRow.holds Try.pinned (OpenSpec.upto fnExactRunProgramSpec)

/-- 'laws.FnExactIsProved', WHERE WHAT IT READS IS OF BULK AT MOST 1048576: true; the input reads as it did. -/
def fnExactIsProvedUptoRow : OpenClaim := { program := "ytfclciebpnnieaa", sum := "6aa40aef9466aa2ccb0dba8d6880a4fcf4b6467c5675b229c74c84e2912054f4", func := "loop.example/g01229/laws.FnExactIsProved", spec := "fnExactIsProved", inPlace := ["math.Float32bits", "math.Float64frombits", "math.Float32frombits", "math.Float64bits"], unfollowed := true, recurses := true, apart := false, narrowed := true }
def FnExactIsProvedUptoSaid : Prop := fnExactIsProvedUptoRow.holds Try.pinned (OpenSpec.upto fnExactIsProvedSpec)

/-- 'laws.FnExactProveProgram', WHERE WHAT IT READS IS OF BULK AT MOST 1048576: true; the input reads as it did. -/
def fnExactProveProgramUptoRow : OpenClaim := { program := "ytfclciebpnnieaa", sum := "6aa40aef9466aa2ccb0dba8d6880a4fcf4b6467c5675b229c74c84e2912054f4", func := "loop.example/g01229/laws.FnExactProveProgram", spec := "fnExactProveProgram", inPlace := ["math.Float32bits", "math.Float64frombits", "math.Float32frombits", "math.Float64bits"], unfollowed := true, recurses := true, apart := false, narrowed := true }
def FnExactProveProgramUptoSaid : Prop := fnExactProveProgramUptoRow.holds Try.pinned (OpenSpec.upto fnExactProveProgramSpec)

/-- 'laws.FnExactNarrowInput', WHERE WHAT IT READS IS OF BULK AT MOST 1048576: true; the input reads as it did. -/
def fnExactNarrowInputUptoRow : OpenClaim := { program := "ytfclciebpnnieaa", sum := "6aa40aef9466aa2ccb0dba8d6880a4fcf4b6467c5675b229c74c84e2912054f4", func := "loop.example/g01229/laws.FnExactNarrowInput", spec := "fnExactNarrowInput", inPlace := ["math.Float32bits", "math.Float64frombits", "math.Float32frombits", "math.Float64bits"], unfollowed := true, recurses := true, apart := false, narrowed := true }
def FnExactNarrowInputUptoSaid : Prop := fnExactNarrowInputUptoRow.holds Try.pinned (OpenSpec.upto fnExactNarrowInputSpec)

end Rows
end Go.Proofs.Ytfclciebpnnieaa
