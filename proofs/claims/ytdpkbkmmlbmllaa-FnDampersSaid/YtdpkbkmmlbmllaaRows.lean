/-
  No cell of these rows narrows 'for every input' (looked for: loops, veiled, ifaces, maps, wideKeys, modest, calm, conditions, laid).
  DERIVED. THE GIVEN ROWS OF THIS SEAT. 9 by the template 'for every input the law returns true; each argument reads behind the call as it read before'; 0 by the template 'total and deterministic' (their statements: YtdpkbkmmlbmllaaTotals.lean).
  GIVEN WITH THE SEED: the statements are not yours to turn. If you find one false, say at which input.
  Laid BY PROGRAM, IN A SANDBOX (cutbox-rows.mjs): the forced cells as the released guide's own fill.sh prints them over the translation 0f2bbceb11013255… (all of the seat's roots in one cut). By AI agents, Wed Nov 11 2026. No macro, syntax, notation, axiom, sorry.
-/
import Derived.Test.YtdpkbkmmlbmllaaChecked
import GoSem.Claim
import GoSem.ClaimJoined
import GoSem.ClaimMapViews
import Derived.JoinedTies
import Derived.KernelRfl
namespace Go.Proofs.Ytdpkbkmmlbmllaa
/- THE CELL 'sum', in the pinned program and in every row, IS THE sha256 OF THE DUMP (.gsa) THAT YtdpkbkmmlbmllaaProg.lean LOADS. Nothing in Lean hashes anything: it is a label: what it is worth is what the hold of that sum in a sandbox is worth. -/
noncomputable def Try.pinned : Pinned := { name := "ytdpkbkmmlbmllaa", sum := "0f2bbceb11013255c9de5f5e3688baa75cb03d2a8d7cd6e23c2328e15234a481", checked := Try.checked }
namespace Rows
def none {H : Type} : Left H := { results := [], args := [] }

/-- 'laws.FnJoined': WHATEVER THE INPUT: true; the input reads as it did. -/
def fnJoinedSpec : ChangeSpec := { name := "fnJoined", fn := fun _ => fun
  | [d1, d2] => { results := [.lit (.bool true)], args := [d1, d2] }
  | _ => none }
def fnJoinedRow : OpenClaim := { program := "ytdpkbkmmlbmllaa", sum := "0f2bbceb11013255c9de5f5e3688baa75cb03d2a8d7cd6e23c2328e15234a481", func := "loop.example/g01229/laws.FnJoined", spec := "fnJoined", inPlace := ["math.Float64bits", "math.Float64frombits", "math.Float32bits", "math.sqrt"], apart := false }
def FnJoinedSaid : Prop := fnJoinedRow.holds Try.pinned (OpenSpec.ofChange fnJoinedSpec)

/-- ITS FALSE NEIGHBOUR: 'it returns false'. Refute it at one input. -/
def fnJoinedWrong : ChangeSpec := { name := "fnJoined", fn := fun _ => fun
  | [d1, d2] => { results := [.lit (.bool false)], args := [d1, d2] }
  | _ => none }
def FnJoinedWrongFalsely : Prop := fnJoinedRow.holds Try.pinned (OpenSpec.ofChange fnJoinedWrong)

/-- 'laws.FnExactPushAt': WHATEVER THE INPUT: true; the input reads as it did. -/
def fnExactPushAtSpec : ChangeSpec := { name := "fnExactPushAt", fn := fun _ => fun
  | [d1, d2, d3, d4] => { results := [.lit (.bool true)], args := [d1, d2, d3, d4] }
  | _ => none }
def fnExactPushAtRow : OpenClaim := { program := "ytdpkbkmmlbmllaa", sum := "0f2bbceb11013255c9de5f5e3688baa75cb03d2a8d7cd6e23c2328e15234a481", func := "loop.example/g01229/laws.FnExactPushAt", spec := "fnExactPushAt", inPlace := ["math.Float32bits", "math.sqrt", "math.Float64bits", "math.Float64frombits"], apart := false }
def FnExactPushAtSaid : Prop := fnExactPushAtRow.holds Try.pinned (OpenSpec.ofChange fnExactPushAtSpec)

/-- ITS FALSE NEIGHBOUR: 'it returns false'. Refute it at one input. -/
def fnExactPushAtWrong : ChangeSpec := { name := "fnExactPushAt", fn := fun _ => fun
  | [d1, d2, d3, d4] => { results := [.lit (.bool false)], args := [d1, d2, d3, d4] }
  | _ => none }
def FnExactPushAtWrongFalsely : Prop := fnExactPushAtRow.holds Try.pinned (OpenSpec.ofChange fnExactPushAtWrong)

/-- 'laws.FnExactDamperFor': WHATEVER THE INPUT: true; the input reads as it did. -/
def fnExactDamperForSpec : ChangeSpec := { name := "fnExactDamperFor", fn := fun _ => fun
  | [d1, d2, d3, d4, d5] => { results := [.lit (.bool true)], args := [d1, d2, d3, d4, d5] }
  | _ => none }
def fnExactDamperForRow : OpenClaim := { program := "ytdpkbkmmlbmllaa", sum := "0f2bbceb11013255c9de5f5e3688baa75cb03d2a8d7cd6e23c2328e15234a481", func := "loop.example/g01229/laws.FnExactDamperFor", spec := "fnExactDamperFor", inPlace := ["math.Float32bits", "math.sqrt", "math.Float64bits", "math.Float64frombits"], apart := false }
def FnExactDamperForSaid : Prop := fnExactDamperForRow.holds Try.pinned (OpenSpec.ofChange fnExactDamperForSpec)

/-- ITS FALSE NEIGHBOUR: 'it returns false'. Refute it at one input. -/
def fnExactDamperForWrong : ChangeSpec := { name := "fnExactDamperFor", fn := fun _ => fun
  | [d1, d2, d3, d4, d5] => { results := [.lit (.bool false)], args := [d1, d2, d3, d4, d5] }
  | _ => none }
def FnExactDamperForWrongFalsely : Prop := fnExactDamperForRow.holds Try.pinned (OpenSpec.ofChange fnExactDamperForWrong)

/-- 'laws.FnExactFlowsOf': WHATEVER THE INPUT: true; the input reads as it did. -/
def fnExactFlowsOfSpec : ChangeSpec := { name := "fnExactFlowsOf", fn := fun _ => fun
  | [d1, d2, d3] => { results := [.lit (.bool true)], args := [d1, d2, d3] }
  | _ => none }
def fnExactFlowsOfRow : OpenClaim := { program := "ytdpkbkmmlbmllaa", sum := "0f2bbceb11013255c9de5f5e3688baa75cb03d2a8d7cd6e23c2328e15234a481", func := "loop.example/g01229/laws.FnExactFlowsOf", spec := "fnExactFlowsOf", inPlace := ["math.Float32bits", "math.sqrt", "math.Float64bits", "math.Float64frombits"], apart := false }
def FnExactFlowsOfSaid : Prop := fnExactFlowsOfRow.holds Try.pinned (OpenSpec.ofChange fnExactFlowsOfSpec)

/-- ITS FALSE NEIGHBOUR: 'it returns false'. Refute it at one input. -/
def fnExactFlowsOfWrong : ChangeSpec := { name := "fnExactFlowsOf", fn := fun _ => fun
  | [d1, d2, d3] => { results := [.lit (.bool false)], args := [d1, d2, d3] }
  | _ => none }
def FnExactFlowsOfWrongFalsely : Prop := fnExactFlowsOfRow.holds Try.pinned (OpenSpec.ofChange fnExactFlowsOfWrong)

/-- 'laws.FnDampers': WHATEVER THE INPUT: true; the input reads as it did. -/
def fnDampersSpec : ChangeSpec := { name := "fnDampers", fn := fun _ => fun
  | [d1, d2] => { results := [.lit (.bool true)], args := [d1, d2] }
  | _ => none }
def fnDampersRow : OpenClaim := { program := "ytdpkbkmmlbmllaa", sum := "0f2bbceb11013255c9de5f5e3688baa75cb03d2a8d7cd6e23c2328e15234a481", func := "loop.example/g01229/laws.FnDampers", spec := "fnDampers", inPlace := ["math.Float64bits", "math.Float64frombits", "math.Float32bits", "math.sqrt"], apart := false }
def FnDampersSaid : Prop := fnDampersRow.holds Try.pinned (OpenSpec.ofChange fnDampersSpec)

/-- ITS FALSE NEIGHBOUR: 'it returns false'. Refute it at one input. -/
def fnDampersWrong : ChangeSpec := { name := "fnDampers", fn := fun _ => fun
  | [d1, d2] => { results := [.lit (.bool false)], args := [d1, d2] }
  | _ => none }
def FnDampersWrongFalsely : Prop := fnDampersRow.holds Try.pinned (OpenSpec.ofChange fnDampersWrong)

/-- 'laws.FnExactBlownBack': WHATEVER THE INPUT: true; the input reads as it did. -/
def fnExactBlownBackSpec : ChangeSpec := { name := "fnExactBlownBack", fn := fun _ => fun
  | [d1, d2, d3] => { results := [.lit (.bool true)], args := [d1, d2, d3] }
  | _ => none }
def fnExactBlownBackRow : OpenClaim := { program := "ytdpkbkmmlbmllaa", sum := "0f2bbceb11013255c9de5f5e3688baa75cb03d2a8d7cd6e23c2328e15234a481", func := "loop.example/g01229/laws.FnExactBlownBack", spec := "fnExactBlownBack", inPlace := ["math.Float32bits", "math.sqrt", "math.Float64bits", "math.Float64frombits"], apart := false }
def FnExactBlownBackSaid : Prop := fnExactBlownBackRow.holds Try.pinned (OpenSpec.ofChange fnExactBlownBackSpec)

/-- ITS FALSE NEIGHBOUR: 'it returns false'. Refute it at one input. -/
def fnExactBlownBackWrong : ChangeSpec := { name := "fnExactBlownBack", fn := fun _ => fun
  | [d1, d2, d3] => { results := [.lit (.bool false)], args := [d1, d2, d3] }
  | _ => none }
def FnExactBlownBackWrongFalsely : Prop := fnExactBlownBackRow.holds Try.pinned (OpenSpec.ofChange fnExactBlownBackWrong)

/-- 'laws.FnExactStepsToDraw': WHATEVER THE INPUT: true; the input reads as it did. -/
def fnExactStepsToDrawSpec : ChangeSpec := { name := "fnExactStepsToDraw", fn := fun _ => fun
  | [d1, d2, d3, d4, d5, d6] => { results := [.lit (.bool true)], args := [d1, d2, d3, d4, d5, d6] }
  | _ => none }
def fnExactStepsToDrawRow : OpenClaim := { program := "ytdpkbkmmlbmllaa", sum := "0f2bbceb11013255c9de5f5e3688baa75cb03d2a8d7cd6e23c2328e15234a481", func := "loop.example/g01229/laws.FnExactStepsToDraw", spec := "fnExactStepsToDraw", inPlace := ["math.Float32bits", "math.sqrt", "math.Float64bits", "math.Float64frombits"], apart := false }
def FnExactStepsToDrawSaid : Prop := fnExactStepsToDrawRow.holds Try.pinned (OpenSpec.ofChange fnExactStepsToDrawSpec)

/-- ITS FALSE NEIGHBOUR: 'it returns false'. Refute it at one input. -/
def fnExactStepsToDrawWrong : ChangeSpec := { name := "fnExactStepsToDraw", fn := fun _ => fun
  | [d1, d2, d3, d4, d5, d6] => { results := [.lit (.bool false)], args := [d1, d2, d3, d4, d5, d6] }
  | _ => none }
def FnExactStepsToDrawWrongFalsely : Prop := fnExactStepsToDrawRow.holds Try.pinned (OpenSpec.ofChange fnExactStepsToDrawWrong)

/-- 'laws.FnExactWarmChimney': WHATEVER THE INPUT: true; the input reads as it did. -/
def fnExactWarmChimneySpec : ChangeSpec := { name := "fnExactWarmChimney", fn := fun _ => fun
  | [d1, d2, d3, d4, d5] => { results := [.lit (.bool true)], args := [d1, d2, d3, d4, d5] }
  | _ => none }
def fnExactWarmChimneyRow : OpenClaim := { program := "ytdpkbkmmlbmllaa", sum := "0f2bbceb11013255c9de5f5e3688baa75cb03d2a8d7cd6e23c2328e15234a481", func := "loop.example/g01229/laws.FnExactWarmChimney", spec := "fnExactWarmChimney", inPlace := ["math.Float32bits", "math.sqrt", "math.Float64bits", "math.Float64frombits"], apart := false }
def FnExactWarmChimneySaid : Prop := fnExactWarmChimneyRow.holds Try.pinned (OpenSpec.ofChange fnExactWarmChimneySpec)

/-- ITS FALSE NEIGHBOUR: 'it returns false'. Refute it at one input. -/
def fnExactWarmChimneyWrong : ChangeSpec := { name := "fnExactWarmChimney", fn := fun _ => fun
  | [d1, d2, d3, d4, d5] => { results := [.lit (.bool false)], args := [d1, d2, d3, d4, d5] }
  | _ => none }
def FnExactWarmChimneyWrongFalsely : Prop := fnExactWarmChimneyRow.holds Try.pinned (OpenSpec.ofChange fnExactWarmChimneyWrong)

/-- 'laws.FnSmoke': WHATEVER THE INPUT: true; the input reads as it did. -/
def fnSmokeSpec : ChangeSpec := { name := "fnSmoke", fn := fun _ => fun
  | [d1, d2] => { results := [.lit (.bool true)], args := [d1, d2] }
  | _ => none }
def fnSmokeRow : OpenClaim := { program := "ytdpkbkmmlbmllaa", sum := "0f2bbceb11013255c9de5f5e3688baa75cb03d2a8d7cd6e23c2328e15234a481", func := "loop.example/g01229/laws.FnSmoke", spec := "fnSmoke", inPlace := ["math.Float32bits", "math.sqrt", "math.Float64bits", "math.Float64frombits"], apart := false }
def FnSmokeSaid : Prop := fnSmokeRow.holds Try.pinned (OpenSpec.ofChange fnSmokeSpec)

/-- ITS FALSE NEIGHBOUR: 'it returns false'. Refute it at one input. -/
def fnSmokeWrong : ChangeSpec := { name := "fnSmoke", fn := fun _ => fun
  | [d1, d2] => { results := [.lit (.bool false)], args := [d1, d2] }
  | _ => none }
def FnSmokeWrongFalsely : Prop := fnSmokeRow.holds Try.pinned (OpenSpec.ofChange fnSmokeWrong)

/- THE SECOND FORM. 'bulk': how many values and letters a reading holds, each counted each time it is reached (what is shared counts as often as it is met; a slice's spare places count too). A statement '..UptoSaid' is the law's where the arguments, and the package variables that the reading takes, are together of bulk at most 1048576: NARROWER than '..Said'. Prove '..Said' where nothing that the law and all that it calls make is longer than what came in: it says more and counts as full. Else prove '..UptoSaid'. A law counts once. -/
mutual
def uptoBulk {H : Type} : DataW H → Nat
  | .lit (.string bytes) => bytes.length + 1
  | .lit _ => 1
  | .nil => 1
  | .ptr d => uptoBulk d + 1
  | .slice elems spare => uptoBulkAll elems + uptoBulkAll spare + 1
  | .agg parts => uptoBulkAll parts + 1
  | .iface _ d => uptoBulk d + 1
  | .map entries => uptoBulkEntries entries + 1
  | .held _ => 1
def uptoBulkAll {H : Type} : List (DataW H) → Nat
  | [] => 0
  | d :: r => uptoBulk d + uptoBulkAll r
def uptoBulkEntries {H : Type} : List (Lit × DataW H) → Nat
  | [] => 0
  | x :: r => uptoBulkEntry x + uptoBulkEntries r
def uptoBulkEntry {H : Type} : Lit × DataW H → Nat
  | (.string bytes, d) => bytes.length + uptoBulk d + 1
  | (_, d) => uptoBulk d + 1
 end
def uptoSmall : (H : Type) → List (DataW H) → Bool := fun _ ds => decide (uptoBulkAll ds ≤ 1048576)
def OpenSpec.upto (s : _root_.Go.ChangeSpec) : _root_.Go.OpenSpec := { _root_.Go.OpenSpec.ofChange s with cond := some uptoSmall }

/-- 'laws.FnJoined', WHERE WHAT IT READS IS OF BULK AT MOST 1048576: true; the input reads as it did. -/
def fnJoinedUptoRow : OpenClaim := { program := "ytdpkbkmmlbmllaa", sum := "0f2bbceb11013255c9de5f5e3688baa75cb03d2a8d7cd6e23c2328e15234a481", func := "loop.example/g01229/laws.FnJoined", spec := "fnJoined", inPlace := ["math.Float64bits", "math.Float64frombits", "math.Float32bits", "math.sqrt"], apart := false, narrowed := true }
def FnJoinedUptoSaid : Prop := fnJoinedUptoRow.holds Try.pinned (OpenSpec.upto fnJoinedSpec)

/-- 'laws.FnExactPushAt', WHERE WHAT IT READS IS OF BULK AT MOST 1048576: true; the input reads as it did. -/
def fnExactPushAtUptoRow : OpenClaim := { program := "ytdpkbkmmlbmllaa", sum := "0f2bbceb11013255c9de5f5e3688baa75cb03d2a8d7cd6e23c2328e15234a481", func := "loop.example/g01229/laws.FnExactPushAt", spec := "fnExactPushAt", inPlace := ["math.Float32bits", "math.sqrt", "math.Float64bits", "math.Float64frombits"], apart := false, narrowed := true }
def FnExactPushAtUptoSaid : Prop := fnExactPushAtUptoRow.holds Try.pinned (OpenSpec.upto fnExactPushAtSpec)

/-- 'laws.FnExactDamperFor', WHERE WHAT IT READS IS OF BULK AT MOST 1048576: true; the input reads as it did. -/
def fnExactDamperForUptoRow : OpenClaim := { program := "ytdpkbkmmlbmllaa", sum := "0f2bbceb11013255c9de5f5e3688baa75cb03d2a8d7cd6e23c2328e15234a481", func := "loop.example/g01229/laws.FnExactDamperFor", spec := "fnExactDamperFor", inPlace := ["math.Float32bits", "math.sqrt", "math.Float64bits", "math.Float64frombits"], apart := false, narrowed := true }
def FnExactDamperForUptoSaid : Prop := fnExactDamperForUptoRow.holds Try.pinned (OpenSpec.upto fnExactDamperForSpec)

/-- 'laws.FnExactFlowsOf', WHERE WHAT IT READS IS OF BULK AT MOST 1048576: true; the input reads as it did. -/
def fnExactFlowsOfUptoRow : OpenClaim := { program := "ytdpkbkmmlbmllaa", sum := "0f2bbceb11013255c9de5f5e3688baa75cb03d2a8d7cd6e23c2328e15234a481", func := "loop.example/g01229/laws.FnExactFlowsOf", spec := "fnExactFlowsOf", inPlace := ["math.Float32bits", "math.sqrt", "math.Float64bits", "math.Float64frombits"], apart := false, narrowed := true }
def FnExactFlowsOfUptoSaid : Prop := fnExactFlowsOfUptoRow.holds Try.pinned (OpenSpec.upto fnExactFlowsOfSpec)

/-- 'laws.FnDampers', WHERE WHAT IT READS IS OF BULK AT MOST 1048576: true; the input reads as it did. -/
def fnDampersUptoRow : OpenClaim := { program := "ytdpkbkmmlbmllaa", sum := "0f2bbceb11013255c9de5f5e3688baa75cb03d2a8d7cd6e23c2328e15234a481", func := "loop.example/g01229/laws.FnDampers", spec := "fnDampers", inPlace := ["math.Float64bits", "math.Float64frombits", "math.Float32bits", "math.sqrt"], apart := false, narrowed := true }
def FnDampersUptoSaid : Prop := fnDampersUptoRow.holds Try.pinned (OpenSpec.upto fnDampersSpec)

/-- 'laws.FnExactBlownBack', WHERE WHAT IT READS IS OF BULK AT MOST 1048576: true; the input reads as it did. -/
def fnExactBlownBackUptoRow : OpenClaim := { program := "ytdpkbkmmlbmllaa", sum := "0f2bbceb11013255c9de5f5e3688baa75cb03d2a8d7cd6e23c2328e15234a481", func := "loop.example/g01229/laws.FnExactBlownBack", spec := "fnExactBlownBack", inPlace := ["math.Float32bits", "math.sqrt", "math.Float64bits", "math.Float64frombits"], apart := false, narrowed := true }
def FnExactBlownBackUptoSaid : Prop := fnExactBlownBackUptoRow.holds Try.pinned (OpenSpec.upto fnExactBlownBackSpec)

/-- 'laws.FnExactStepsToDraw', WHERE WHAT IT READS IS OF BULK AT MOST 1048576: true; the input reads as it did. -/
def fnExactStepsToDrawUptoRow : OpenClaim := { program := "ytdpkbkmmlbmllaa", sum := "0f2bbceb11013255c9de5f5e3688baa75cb03d2a8d7cd6e23c2328e15234a481", func := "loop.example/g01229/laws.FnExactStepsToDraw", spec := "fnExactStepsToDraw", inPlace := ["math.Float32bits", "math.sqrt", "math.Float64bits", "math.Float64frombits"], apart := false, narrowed := true }
def FnExactStepsToDrawUptoSaid : Prop := fnExactStepsToDrawUptoRow.holds Try.pinned (OpenSpec.upto fnExactStepsToDrawSpec)

/-- 'laws.FnExactWarmChimney', WHERE WHAT IT READS IS OF BULK AT MOST 1048576: true; the input reads as it did. -/
def fnExactWarmChimneyUptoRow : OpenClaim := { program := "ytdpkbkmmlbmllaa", sum := "0f2bbceb11013255c9de5f5e3688baa75cb03d2a8d7cd6e23c2328e15234a481", func := "loop.example/g01229/laws.FnExactWarmChimney", spec := "fnExactWarmChimney", inPlace := ["math.Float32bits", "math.sqrt", "math.Float64bits", "math.Float64frombits"], apart := false, narrowed := true }
def FnExactWarmChimneyUptoSaid : Prop := fnExactWarmChimneyUptoRow.holds Try.pinned (OpenSpec.upto fnExactWarmChimneySpec)

/-- 'laws.FnSmoke', WHERE WHAT IT READS IS OF BULK AT MOST 1048576: true; the input reads as it did. -/
def fnSmokeUptoRow : OpenClaim := { program := "ytdpkbkmmlbmllaa", sum := "0f2bbceb11013255c9de5f5e3688baa75cb03d2a8d7cd6e23c2328e15234a481", func := "loop.example/g01229/laws.FnSmoke", spec := "fnSmoke", inPlace := ["math.Float32bits", "math.sqrt", "math.Float64bits", "math.Float64frombits"], apart := false, narrowed := true }
def FnSmokeUptoSaid : Prop := fnSmokeUptoRow.holds Try.pinned (OpenSpec.upto fnSmokeSpec)

end Rows
end Go.Proofs.Ytdpkbkmmlbmllaa
