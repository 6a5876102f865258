/- A part of a run of code, by itself. -/
import Derived.Test.YtmknfenjnladeaaA34
namespace Go.Ab

/-- a part of some code -/
def subAt : Code → List Nat → Code
  | .seq a b, q :: p => cond (Nat.beq q 0) (subAt a p) (subAt b p)
  | .cond _ t e, q :: p => cond (Nat.beq q 0) (subAt t p) (subAt e p)
  | .block _ b, _ :: p => subAt b p
  | c, _ => c
/-- what comes behind it -/
def kontAt {α : Type} (P : Program) (ext : FuncId → Option Ext) (cf : CallF) (lf : LoopT) (K : Nat) : Code → List Nat → Kont α → Kont α
  | .seq a b, q :: p, k => cond (Nat.beq q 0) (kontAt P ext cf lf K a p (fun e fr s => match e with | .norm => evC P ext cf lf K b k fr s | e => k e fr s)) (kontAt P ext cf lf K b p k)
  | .cond _ t e, q :: p, k => cond (Nat.beq q 0) (kontAt P ext cf lf K t p k) (kontAt P ext cf lf K e p k)
  | .block id b, _ :: p, k => kontAt P ext cf lf K b p (fun e fr s => match e with | .exit id' => if id' = id then k .norm fr s else k (.exit id') fr s | e => k e fr s)
  | _, _, k => k
end Go.Ab
