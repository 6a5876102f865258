/- Arguments of a law that are plain values; floats: small facts. -/
import Derived.Test.YtmknfenjnladeaaA18
import GoSem.ClaimWide
import Derived.WideShapes
namespace Go.Ab

theorem order_self (k : FloatKind) (a : Nat) : k.format.order a a = if isN k a then none else some .eq := by
  unfold Ieee.Format.order isN
  generalize k.format.read a = d
  cases d with
  | nan s f => rfl
  | infinity s => cases s <;> rfl
  | number s m i =>
    simp only [Ieee.Datum.order,Ieee.Datum.isNaN,Std.ReflCmp.compare_self]
    rfl
theorem feq_self (k : FloatKind) (a : Nat) : feq k a a = !isN k a := by
  unfold feq; rw [order_self]; cases isN k a <;> rfl
theorem order_swap (d e : Ieee.Datum) : e.order d = (d.order e).map Ordering.swap := by
  cases d <;> cases e <;> simp only [Ieee.Datum.order,Option.map]
  · rename_i s m i t n j
    rw [show min j i = min i j from by omega]
    rw [Std.OrientedCmp.eq_swap (cmp := (compare : Int → Int → Ordering))]
  · rename_i s m i t; cases t <;> rfl
  · rename_i t s m i; cases t <;> rfl
  · rename_i s t; cases s <;> cases t <;> rfl
theorem fgt_eq (k : FloatKind) (a b : Nat) : fgt k a b = flt k b a := by
  unfold fgt flt Ieee.Format.order
  rw [order_swap]
  generalize (k.format.read b).order (k.format.read a) = o
  rcases o with _ | _ | _ | _ <;> rfl
theorem order_nanl {k : FloatKind} {a : Nat} (b : Nat) (h : isN k a = true) : k.format.order a b = none := by
  unfold Ieee.Format.order isN at *
  revert h
  cases k.format.read a <;> simp [Ieee.Datum.isNaN,Ieee.Datum.order]
theorem fgt_nanl {k : FloatKind} {a : Nat} (b : Nat) (h : isN k a = true) : fgt k a b = false := by unfold fgt; rw [order_nanl b h]; rfl
theorem feq_nanl {k : FloatKind} {a : Nat} (b : Nat) (h : isN k a = true) : feq k a b = false := by unfold feq; rw [order_nanl b h]; rfl
end Go.Ab
