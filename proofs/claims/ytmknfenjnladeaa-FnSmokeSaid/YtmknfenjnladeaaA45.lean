/- A long run of code, cut into parts: whatever comes behind it. -/
import Derived.Test.YtmknfenjnladeaaA36
import Derived.Test.YtmknfenjnladeaaA35
import Derived.Test.YtmknfenjnladeaaA23
namespace Go.Ab
def endK {α : Type} (k : Kont α) (kn : List Value → St → Option α) : Kont α := fun e fr s => match e with | .norm => kn fr s | e => k e fr s
theorem split_k {α : Type} (P : Program) (ext : FuncId → Option Ext) (cf : CallF) (lf : LoopT) (K : Nat) (n : Nat) (c : Code) (k : Kont α) (fr : List Value) (s : St) : evC P ext cf lf K c k fr s = evC P ext cf lf K (preC c n) (endK k (evC P ext cf lf K (postC c n) k)) fr s := by
  rw [split_at P ext cf lf K n c k fr s]
  have e : after P ext cf lf K (postC c n) k = endK k (evC P ext cf lf K (postC c n) k) := by
    funext e fr s
    cases e <;> rfl
  rw [e]
end Go.Ab
