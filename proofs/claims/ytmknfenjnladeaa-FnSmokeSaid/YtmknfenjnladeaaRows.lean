/-
  No cell of these rows narrows 'for every input' (looked for: loops, veiled, ifaces, maps, wideKeys, modest, calm, conditions, laid).
  DERIVED. THE GIVEN ROWS OF THIS SEAT. 5 by the template 'for every input the law returns true; each argument reads behind the call as it read before'; 0 by the template 'total and deterministic' (their statements: YtmknfenjnladeaaTotals.lean).
  GIVEN WITH THE SEED: the statements are not yours to turn. If you find one false, say at which input.
  Laid BY PROGRAM, IN A SANDBOX (cutbox-rows.mjs): the forced cells as the released guide's own fill.sh prints them over the translation 4fa6b10ab0ac4fa9… (all of the seat's roots in one cut). By AI agents, Wed Nov 11 2026. No macro, syntax, notation, axiom, sorry.
-/
import Derived.Test.YtmknfenjnladeaaChecked
import GoSem.Claim
import GoSem.ClaimJoined
import GoSem.ClaimMapViews
import Derived.JoinedTies
import Derived.KernelRfl
namespace Go.Proofs.Ytmknfenjnladeaa
/- THE CELL 'sum', in the pinned program and in every row, IS THE sha256 OF THE DUMP (.gsa) THAT YtmknfenjnladeaaProg.lean LOADS. Nothing in Lean hashes anything: it is a label: what it is worth is what the hold of that sum in a sandbox is worth. -/
noncomputable def Try.pinned : Pinned := { name := "ytmknfenjnladeaa", sum := "4fa6b10ab0ac4fa9d5d3d8b04f88ad1251f58522fdddcb8c10d2592de7345bae", checked := Try.checked }
namespace Rows
def none {H : Type} : Left H := { results := [], args := [] }

/-- 'laws.FnJoined': WHATEVER THE INPUT: true; the input reads as it did. -/
def fnJoinedSpec : ChangeSpec := { name := "fnJoined", fn := fun _ => fun
  | [d1, d2] => { results := [.lit (.bool true)], args := [d1, d2] }
  | _ => none }
def fnJoinedRow : OpenClaim := { program := "ytmknfenjnladeaa", sum := "4fa6b10ab0ac4fa9d5d3d8b04f88ad1251f58522fdddcb8c10d2592de7345bae", func := "loop.example/g01229/laws.FnJoined", spec := "fnJoined", inPlace := ["math.Float64bits", "math.Float64frombits", "math.Float32bits", "math.sqrt"], apart := false }
def FnJoinedSaid : Prop := fnJoinedRow.holds Try.pinned (OpenSpec.ofChange fnJoinedSpec)

/-- ITS FALSE NEIGHBOUR: 'it returns false'. Refute it at one input. -/
def fnJoinedWrong : ChangeSpec := { name := "fnJoined", fn := fun _ => fun
  | [d1, d2] => { results := [.lit (.bool false)], args := [d1, d2] }
  | _ => none }
def FnJoinedWrongFalsely : Prop := fnJoinedRow.holds Try.pinned (OpenSpec.ofChange fnJoinedWrong)

/-- 'laws.FnStill': WHATEVER THE INPUT: true; the input reads as it did. -/
def fnStillSpec : ChangeSpec := { name := "fnStill", fn := fun _ => fun
  | [d1, d2] => { results := [.lit (.bool true)], args := [d1, d2] }
  | _ => none }
def fnStillRow : OpenClaim := { program := "ytmknfenjnladeaa", sum := "4fa6b10ab0ac4fa9d5d3d8b04f88ad1251f58522fdddcb8c10d2592de7345bae", func := "loop.example/g01229/laws.FnStill", spec := "fnStill", inPlace := ["math.Float64bits", "math.Float64frombits", "math.Float32bits"], unfollowed := true, recurses := true, apart := false }
def FnStillSaid : Prop := fnStillRow.holds Try.pinned (OpenSpec.ofChange fnStillSpec)

/-- ITS FALSE NEIGHBOUR: 'it returns false'. Refute it at one input. -/
def fnStillWrong : ChangeSpec := { name := "fnStill", fn := fun _ => fun
  | [d1, d2] => { results := [.lit (.bool false)], args := [d1, d2] }
  | _ => none }
def FnStillWrongFalsely : Prop := fnStillRow.holds Try.pinned (OpenSpec.ofChange fnStillWrong)

/-- 'laws.FnLeads': WHATEVER THE INPUT: true; the input reads as it did. -/
def fnLeadsSpec : ChangeSpec := { name := "fnLeads", fn := fun _ => fun
  | [d1, d2] => { results := [.lit (.bool true)], args := [d1, d2] }
  | _ => none }
def fnLeadsRow : OpenClaim := { program := "ytmknfenjnladeaa", sum := "4fa6b10ab0ac4fa9d5d3d8b04f88ad1251f58522fdddcb8c10d2592de7345bae", func := "loop.example/g01229/laws.FnLeads", spec := "fnLeads", inPlace := ["math.Float64bits", "math.Float64frombits", "math.Float32bits"], apart := false }
def FnLeadsSaid : Prop := fnLeadsRow.holds Try.pinned (OpenSpec.ofChange fnLeadsSpec)

/-- ITS FALSE NEIGHBOUR: 'it returns false'. Refute it at one input. -/
def fnLeadsWrong : ChangeSpec := { name := "fnLeads", fn := fun _ => fun
  | [d1, d2] => { results := [.lit (.bool false)], args := [d1, d2] }
  | _ => none }
def FnLeadsWrongFalsely : Prop := fnLeadsRow.holds Try.pinned (OpenSpec.ofChange fnLeadsWrong)

/-- 'laws.FnSmoke': WHATEVER THE INPUT: true; the input reads as it did. -/
def fnSmokeSpec : ChangeSpec := { name := "fnSmoke", fn := fun _ => fun
  | [d1, d2] => { results := [.lit (.bool true)], args := [d1, d2] }
  | _ => none }
def fnSmokeRow : OpenClaim := { program := "ytmknfenjnladeaa", sum := "4fa6b10ab0ac4fa9d5d3d8b04f88ad1251f58522fdddcb8c10d2592de7345bae", func := "loop.example/g01229/laws.FnSmoke", spec := "fnSmoke", inPlace := ["math.Float32bits", "math.sqrt", "math.Float64bits", "math.Float64frombits"], apart := false }
def FnSmokeSaid : Prop := fnSmokeRow.holds Try.pinned (OpenSpec.ofChange fnSmokeSpec)

/-- ITS FALSE NEIGHBOUR: 'it returns false'. Refute it at one input. -/
def fnSmokeWrong : ChangeSpec := { name := "fnSmoke", fn := fun _ => fun
  | [d1, d2] => { results := [.lit (.bool false)], args := [d1, d2] }
  | _ => none }
def FnSmokeWrongFalsely : Prop := fnSmokeRow.holds Try.pinned (OpenSpec.ofChange fnSmokeWrong)

/-- 'laws.FnExactStillFlat': WHATEVER THE INPUT: true; the input reads as it did. -/
def fnExactStillFlatSpec : ChangeSpec := { name := "fnExactStillFlat", fn := fun _ => fun
  | [d1, d2, d3, d4] => { results := [.lit (.bool true)], args := [d1, d2, d3, d4] }
  | _ => none }
def fnExactStillFlatRow : OpenClaim := { program := "ytmknfenjnladeaa", sum := "4fa6b10ab0ac4fa9d5d3d8b04f88ad1251f58522fdddcb8c10d2592de7345bae", func := "loop.example/g01229/laws.FnExactStillFlat", spec := "fnExactStillFlat", inPlace := ["math.Float32bits", "math.Float64bits", "math.Float64frombits"], apart := false }
def FnExactStillFlatSaid : Prop := fnExactStillFlatRow.holds Try.pinned (OpenSpec.ofChange fnExactStillFlatSpec)

/-- ITS FALSE NEIGHBOUR: 'it returns false'. Refute it at one input. -/
def fnExactStillFlatWrong : ChangeSpec := { name := "fnExactStillFlat", fn := fun _ => fun
  | [d1, d2, d3, d4] => { results := [.lit (.bool false)], args := [d1, d2, d3, d4] }
  | _ => none }
def FnExactStillFlatWrongFalsely : Prop := fnExactStillFlatRow.holds Try.pinned (OpenSpec.ofChange fnExactStillFlatWrong)

/- THE SECOND FORM. 'bulk': how many values and letters a reading holds, each counted each time it is reached (what is shared counts as often as it is met; a slice's spare places count too). A statement '..UptoSaid' is the law's where the arguments, and the package variables that the reading takes, are together of bulk at most 1048576: NARROWER than '..Said'. Prove '..Said' where nothing that the law and all that it calls make is longer than what came in: it says more and counts as full. Else prove '..UptoSaid'. A law counts once. -/
mutual
def uptoBulk {H : Type} : DataW H → Nat
  | .lit (.string bytes) => bytes.length + 1
  | .lit _ => 1
  | .nil => 1
  | .ptr d => uptoBulk d + 1
  | .slice elems spare => uptoBulkAll elems + uptoBulkAll spare + 1
  | .agg parts => uptoBulkAll parts + 1
  | .iface _ d => uptoBulk d + 1
  | .map entries => uptoBulkEntries entries + 1
  | .held _ => 1
def uptoBulkAll {H : Type} : List (DataW H) → Nat
  | [] => 0
  | d :: r => uptoBulk d + uptoBulkAll r
def uptoBulkEntries {H : Type} : List (Lit × DataW H) → Nat
  | [] => 0
  | x :: r => uptoBulkEntry x + uptoBulkEntries r
def uptoBulkEntry {H : Type} : Lit × DataW H → Nat
  | (.string bytes, d) => bytes.length + uptoBulk d + 1
  | (_, d) => uptoBulk d + 1
 end
def uptoSmall : (H : Type) → List (DataW H) → Bool := fun _ ds => decide (uptoBulkAll ds ≤ 1048576)
def OpenSpec.upto (s : _root_.Go.ChangeSpec) : _root_.Go.OpenSpec := { _root_.Go.OpenSpec.ofChange s with cond := some uptoSmall }

/-- 'laws.FnJoined', WHERE WHAT IT READS IS OF BULK AT MOST 1048576: true; the input reads as it did. -/
def fnJoinedUptoRow : OpenClaim := { program := "ytmknfenjnladeaa", sum := "4fa6b10ab0ac4fa9d5d3d8b04f88ad1251f58522fdddcb8c10d2592de7345bae", func := "loop.example/g01229/laws.FnJoined", spec := "fnJoined", inPlace := ["math.Float64bits", "math.Float64frombits", "math.Float32bits", "math.sqrt"], apart := false, narrowed := true }
def FnJoinedUptoSaid : Prop := fnJoinedUptoRow.holds Try.pinned (OpenSpec.upto fnJoinedSpec)

/-- 'laws.FnStill', WHERE WHAT IT READS IS OF BULK AT MOST 1048576: true; the input reads as it did. -/
def fnStillUptoRow : OpenClaim := { program := "ytmknfenjnladeaa", sum := "4fa6b10ab0ac4fa9d5d3d8b04f88ad1251f58522fdddcb8c10d2592de7345bae", func := "loop.example/g01229/laws.FnStill", spec := "fnStill", inPlace := ["math.Float64bits", "math.Float64frombits", "math.Float32bits"], unfollowed := true, recurses := true, apart := false, narrowed := true }
def FnStillUptoSaid : Prop := fnStillUptoRow.holds Try.pinned (OpenSpec.upto fnStillSpec)

/-- 'laws.FnLeads', WHERE WHAT IT READS IS OF BULK AT MOST 1048576: true; the input reads as it did. -/
def fnLeadsUptoRow : OpenClaim := { program := "ytmknfenjnladeaa", sum := "4fa6b10ab0ac4fa9d5d3d8b04f88ad1251f58522fdddcb8c10d2592de7345bae", func := "loop.example/g01229/laws.FnLeads", spec := "fnLeads", inPlace := ["math.Float64bits", "math.Float64frombits", "math.Float32bits"], apart := false, narrowed := true }
def FnLeadsUptoSaid : Prop := fnLeadsUptoRow.holds Try.pinned (OpenSpec.upto fnLeadsSpec)

/-- 'laws.FnSmoke', WHERE WHAT IT READS IS OF BULK AT MOST 1048576: true; the input reads as it did. -/
def fnSmokeUptoRow : OpenClaim := { program := "ytmknfenjnladeaa", sum := "4fa6b10ab0ac4fa9d5d3d8b04f88ad1251f58522fdddcb8c10d2592de7345bae", func := "loop.example/g01229/laws.FnSmoke", spec := "fnSmoke", inPlace := ["math.Float32bits", "math.sqrt", "math.Float64bits", "math.Float64frombits"], apart := false, narrowed := true }
def FnSmokeUptoSaid : Prop := fnSmokeUptoRow.holds Try.pinned (OpenSpec.upto fnSmokeSpec)

/-- 'laws.FnExactStillFlat', WHERE WHAT IT READS IS OF BULK AT MOST 1048576: true; the input reads as it did. -/
def fnExactStillFlatUptoRow : OpenClaim := { program := "ytmknfenjnladeaa", sum := "4fa6b10ab0ac4fa9d5d3d8b04f88ad1251f58522fdddcb8c10d2592de7345bae", func := "loop.example/g01229/laws.FnExactStillFlat", spec := "fnExactStillFlat", inPlace := ["math.Float32bits", "math.Float64bits", "math.Float64frombits"], apart := false, narrowed := true }
def FnExactStillFlatUptoSaid : Prop := fnExactStillFlatUptoRow.holds Try.pinned (OpenSpec.upto fnExactStillFlatSpec)

end Rows
end Go.Proofs.Ytmknfenjnladeaa
