/- What the functions that the statements reach answer, part 4. -/
import Derived.Test.YtfclciebpnnieaaNi3
namespace Go.Proofs.Ytfclciebpnnieaa
open Go.Ab
set_option maxHeartbeats 4000000
set_option maxRecDepth 100000

/-- spec.NarrowInput, loop 1: one round -/
noncomputable def b36l1 (ih : Int → Int → Int → Int → Int → Nat → Int → Nat → Nat → Nat → Nat → Nat → Nat → Nat → Nat → Nat → Nat → Nat → Nat → Nat → Nat → Nat → Nat → List ByteArray → List (List Int) → (Nat × Int × Nat × Nat × Nat × Nat × Nat × Nat × Nat × Nat × Nat × Nat)) (x0 x1 x2 x3 x4 : Int) (x5 : Nat) (x6 : Int) (x7 x8 x9 x10 x11 x12 x13 x14 x15 x16 x17 x18 x19 x20 x21 x22 : Nat) (x23 : List ByteArray) (x24 : List (List Int)) : Nat × Int × Nat × Nat × Nat × Nat × Nat × Nat × Nat × Nat × Nat × Nat :=
 let c146 := (r61 (Int.toNat ((((r62 ((r69 x19 x20 x6 x1).1) ((r69 x19 x20 x6 x1).2) x9 x10 x11 x12 x13 x14 x23 x24).2).getD (Int.toNat x2) []).getD 0 0)) (Int.toNat ((((r62 ((r69 x19 x20 x6 x1).1) ((r69 x19 x20 x6 x1).2) x9 x10 x11 x12 x13 x14 x23 x24).2).getD (Int.toNat x2) []).getD 1 0)) x15 x16)
 let c147 := (r61 (Int.toNat ((((r62 x7 ((r69 x19 x20 x6 x1).1) ((r69 x19 x20 x6 x1).2) x10 x11 x12 x13 x14 x23 x24).2).getD (Int.toNat x2) []).getD 0 0)) (Int.toNat ((((r62 x7 ((r69 x19 x20 x6 x1).1) ((r69 x19 x20 x6 x1).2) x10 x11 x12 x13 x14 x23 x24).2).getD (Int.toNat x2) []).getD 1 0)) x15 x16)
 let c148 := (r61 (Int.toNat ((((r62 x7 x8 ((r69 x19 x20 x6 x1).1) ((r69 x19 x20 x6 x1).2) x11 x12 x13 x14 x23 x24).2).getD (Int.toNat x2) []).getD 0 0)) (Int.toNat ((((r62 x7 x8 ((r69 x19 x20 x6 x1).1) ((r69 x19 x20 x6 x1).2) x11 x12 x13 x14 x23 x24).2).getD (Int.toNat x2) []).getD 1 0)) x15 x16)
 let c149 := (r61 (Int.toNat ((((r62 x7 x8 x9 ((r69 x19 x20 x6 x1).1) ((r69 x19 x20 x6 x1).2) x12 x13 x14 x23 x24).2).getD (Int.toNat x2) []).getD 0 0)) (Int.toNat ((((r62 x7 x8 x9 ((r69 x19 x20 x6 x1).1) ((r69 x19 x20 x6 x1).2) x12 x13 x14 x23 x24).2).getD (Int.toNat x2) []).getD 1 0)) x15 x16)
 let c150 := (r61 (Int.toNat ((((r62 x7 x8 x9 x10 ((r69 x19 x20 x6 x1).1) ((r69 x19 x20 x6 x1).2) x13 x14 x23 x24).2).getD (Int.toNat x2) []).getD 0 0)) (Int.toNat ((((r62 x7 x8 x9 x10 ((r69 x19 x20 x6 x1).1) ((r69 x19 x20 x6 x1).2) x13 x14 x23 x24).2).getD (Int.toNat x2) []).getD 1 0)) x15 x16)
 let c151 := (r61 (Int.toNat ((((r62 x7 x8 x9 x10 x11 ((r69 x19 x20 x6 x1).1) ((r69 x19 x20 x6 x1).2) x14 x23 x24).2).getD (Int.toNat x2) []).getD 0 0)) (Int.toNat ((((r62 x7 x8 x9 x10 x11 ((r69 x19 x20 x6 x1).1) ((r69 x19 x20 x6 x1).2) x14 x23 x24).2).getD (Int.toNat x2) []).getD 1 0)) x15 x16)
 let c152 := (r61 (Int.toNat ((((r62 x7 x8 x9 x10 x11 x12 ((r69 x19 x20 x6 x1).1) ((r69 x19 x20 x6 x1).2) x23 x24).2).getD (Int.toNat x2) []).getD 0 0)) (Int.toNat ((((r62 x7 x8 x9 x10 x11 x12 ((r69 x19 x20 x6 x1).1) ((r69 x19 x20 x6 x1).2) x23 x24).2).getD (Int.toNat x2) []).getD 1 0)) x15 x16)
 cond (decide ((x6 : Int) < x1))
  (cond ((decide ((0 : Int) ≤ x0)) && (Nat.blt (Int.toNat x0) 4))
  (cond (Nat.beq (0 + (Int.toNat x0) * 2) 0)
  (cond (Nat.beq ((r62 ((r69 x19 x20 x6 x1).1) ((r69 x19 x20 x6 x1).2) x9 x10 x11 x12 x13 x14 x23 x24).1) 0)
  (cond ((decide ((0 : Int) ≤ x2)) && (Nat.blt (Int.toNat x2) (((r62 ((r69 x19 x20 x6 x1).1) ((r69 x19 x20 x6 x1).2) x9 x10 x11 x12 x13 x14 x23 x24).2).length)))
  (cond (!c146)
  (ih x0 x1 x2 x3 0 x5 (IntKind.i64.wrap (x6 + 1)) ((r69 x19 x20 x6 x1).1) ((r69 x19 x20 x6 x1).2) x9 x10 x11 x12 x13 x14 x15 x16 x17 x18 x19 x20 x21 x22 x23 x24)
  (cond ((x4 : Int) == 0)
  (cond (decide (((IntKind.i64.wrap (x4 + 1)) : Int) > x3))
  (ih x0 x1 x2 (IntKind.i64.wrap (x4 + 1)) (IntKind.i64.wrap (x4 + 1)) ((r69 x19 x20 x6 x1).1) (IntKind.i64.wrap (x6 + 1)) ((r69 x19 x20 x6 x1).1) ((r69 x19 x20 x6 x1).2) x9 x10 x11 x12 x13 x14 x15 x16 x17 x18 x19 x20 ((r69 x19 x20 x6 x1).1) ((r69 x19 x20 x6 x1).2) x23 x24)
  (ih x0 x1 x2 x3 (IntKind.i64.wrap (x4 + 1)) ((r69 x19 x20 x6 x1).1) (IntKind.i64.wrap (x6 + 1)) ((r69 x19 x20 x6 x1).1) ((r69 x19 x20 x6 x1).2) x9 x10 x11 x12 x13 x14 x15 x16 x17 x18 x19 x20 x21 x22 x23 x24))
  (cond (decide (((IntKind.i64.wrap (x4 + 1)) : Int) > x3))
  (ih x0 x1 x2 (IntKind.i64.wrap (x4 + 1)) (IntKind.i64.wrap (x4 + 1)) x5 (IntKind.i64.wrap (x6 + 1)) ((r69 x19 x20 x6 x1).1) ((r69 x19 x20 x6 x1).2) x9 x10 x11 x12 x13 x14 x15 x16 x17 x18 x19 x20 x5 ((r69 x19 x20 x6 x1).2) x23 x24)
  (ih x0 x1 x2 x3 (IntKind.i64.wrap (x4 + 1)) x5 (IntKind.i64.wrap (x6 + 1)) ((r69 x19 x20 x6 x1).1) ((r69 x19 x20 x6 x1).2) x9 x10 x11 x12 x13 x14 x15 x16 x17 x18 x19 x20 x21 x22 x23 x24))))
  (1, 0, 0, 0, 0, 0, 0, 0, 0, 0, 0, 0))
  (1, 0, 0, 0, 0, 0, 0, 0, 0, 0, 0, 0))
  (cond (Nat.beq (0 + (Int.toNat x0) * 2) 1)
  (cond (Nat.beq ((r62 x7 ((r69 x19 x20 x6 x1).1) ((r69 x19 x20 x6 x1).2) x10 x11 x12 x13 x14 x23 x24).1) 0)
  (cond ((decide ((0 : Int) ≤ x2)) && (Nat.blt (Int.toNat x2) (((r62 x7 ((r69 x19 x20 x6 x1).1) ((r69 x19 x20 x6 x1).2) x10 x11 x12 x13 x14 x23 x24).2).length)))
  (cond (!c147)
  (ih x0 x1 x2 x3 0 x5 (IntKind.i64.wrap (x6 + 1)) x7 ((r69 x19 x20 x6 x1).1) ((r69 x19 x20 x6 x1).2) x10 x11 x12 x13 x14 x15 x16 x17 x18 x19 x20 x21 x22 x23 x24)
  (cond ((x4 : Int) == 0)
  (cond (decide (((IntKind.i64.wrap (x4 + 1)) : Int) > x3))
  (ih x0 x1 x2 (IntKind.i64.wrap (x4 + 1)) (IntKind.i64.wrap (x4 + 1)) ((r69 x19 x20 x6 x1).1) (IntKind.i64.wrap (x6 + 1)) x7 ((r69 x19 x20 x6 x1).1) ((r69 x19 x20 x6 x1).2) x10 x11 x12 x13 x14 x15 x16 x17 x18 x19 x20 ((r69 x19 x20 x6 x1).1) ((r69 x19 x20 x6 x1).2) x23 x24)
  (ih x0 x1 x2 x3 (IntKind.i64.wrap (x4 + 1)) ((r69 x19 x20 x6 x1).1) (IntKind.i64.wrap (x6 + 1)) x7 ((r69 x19 x20 x6 x1).1) ((r69 x19 x20 x6 x1).2) x10 x11 x12 x13 x14 x15 x16 x17 x18 x19 x20 x21 x22 x23 x24))
  (cond (decide (((IntKind.i64.wrap (x4 + 1)) : Int) > x3))
  (ih x0 x1 x2 (IntKind.i64.wrap (x4 + 1)) (IntKind.i64.wrap (x4 + 1)) x5 (IntKind.i64.wrap (x6 + 1)) x7 ((r69 x19 x20 x6 x1).1) ((r69 x19 x20 x6 x1).2) x10 x11 x12 x13 x14 x15 x16 x17 x18 x19 x20 x5 ((r69 x19 x20 x6 x1).2) x23 x24)
  (ih x0 x1 x2 x3 (IntKind.i64.wrap (x4 + 1)) x5 (IntKind.i64.wrap (x6 + 1)) x7 ((r69 x19 x20 x6 x1).1) ((r69 x19 x20 x6 x1).2) x10 x11 x12 x13 x14 x15 x16 x17 x18 x19 x20 x21 x22 x23 x24))))
  (1, 0, 0, 0, 0, 0, 0, 0, 0, 0, 0, 0))
  (1, 0, 0, 0, 0, 0, 0, 0, 0, 0, 0, 0))
  (cond (Nat.beq (0 + (Int.toNat x0) * 2) 2)
  (cond (Nat.beq ((r62 x7 x8 ((r69 x19 x20 x6 x1).1) ((r69 x19 x20 x6 x1).2) x11 x12 x13 x14 x23 x24).1) 0)
  (cond ((decide ((0 : Int) ≤ x2)) && (Nat.blt (Int.toNat x2) (((r62 x7 x8 ((r69 x19 x20 x6 x1).1) ((r69 x19 x20 x6 x1).2) x11 x12 x13 x14 x23 x24).2).length)))
  (cond (!c148)
  (ih x0 x1 x2 x3 0 x5 (IntKind.i64.wrap (x6 + 1)) x7 x8 ((r69 x19 x20 x6 x1).1) ((r69 x19 x20 x6 x1).2) x11 x12 x13 x14 x15 x16 x17 x18 x19 x20 x21 x22 x23 x24)
  (cond ((x4 : Int) == 0)
  (cond (decide (((IntKind.i64.wrap (x4 + 1)) : Int) > x3))
  (ih x0 x1 x2 (IntKind.i64.wrap (x4 + 1)) (IntKind.i64.wrap (x4 + 1)) ((r69 x19 x20 x6 x1).1) (IntKind.i64.wrap (x6 + 1)) x7 x8 ((r69 x19 x20 x6 x1).1) ((r69 x19 x20 x6 x1).2) x11 x12 x13 x14 x15 x16 x17 x18 x19 x20 ((r69 x19 x20 x6 x1).1) ((r69 x19 x20 x6 x1).2) x23 x24)
  (ih x0 x1 x2 x3 (IntKind.i64.wrap (x4 + 1)) ((r69 x19 x20 x6 x1).1) (IntKind.i64.wrap (x6 + 1)) x7 x8 ((r69 x19 x20 x6 x1).1) ((r69 x19 x20 x6 x1).2) x11 x12 x13 x14 x15 x16 x17 x18 x19 x20 x21 x22 x23 x24))
  (cond (decide (((IntKind.i64.wrap (x4 + 1)) : Int) > x3))
  (ih x0 x1 x2 (IntKind.i64.wrap (x4 + 1)) (IntKind.i64.wrap (x4 + 1)) x5 (IntKind.i64.wrap (x6 + 1)) x7 x8 ((r69 x19 x20 x6 x1).1) ((r69 x19 x20 x6 x1).2) x11 x12 x13 x14 x15 x16 x17 x18 x19 x20 x5 ((r69 x19 x20 x6 x1).2) x23 x24)
  (ih x0 x1 x2 x3 (IntKind.i64.wrap (x4 + 1)) x5 (IntKind.i64.wrap (x6 + 1)) x7 x8 ((r69 x19 x20 x6 x1).1) ((r69 x19 x20 x6 x1).2) x11 x12 x13 x14 x15 x16 x17 x18 x19 x20 x21 x22 x23 x24))))
  (1, 0, 0, 0, 0, 0, 0, 0, 0, 0, 0, 0))
  (1, 0, 0, 0, 0, 0, 0, 0, 0, 0, 0, 0))
  (cond (Nat.beq (0 + (Int.toNat x0) * 2) 3)
  (cond (Nat.beq ((r62 x7 x8 x9 ((r69 x19 x20 x6 x1).1) ((r69 x19 x20 x6 x1).2) x12 x13 x14 x23 x24).1) 0)
  (cond ((decide ((0 : Int) ≤ x2)) && (Nat.blt (Int.toNat x2) (((r62 x7 x8 x9 ((r69 x19 x20 x6 x1).1) ((r69 x19 x20 x6 x1).2) x12 x13 x14 x23 x24).2).length)))
  (cond (!c149)
  (ih x0 x1 x2 x3 0 x5 (IntKind.i64.wrap (x6 + 1)) x7 x8 x9 ((r69 x19 x20 x6 x1).1) ((r69 x19 x20 x6 x1).2) x12 x13 x14 x15 x16 x17 x18 x19 x20 x21 x22 x23 x24)
  (cond ((x4 : Int) == 0)
  (cond (decide (((IntKind.i64.wrap (x4 + 1)) : Int) > x3))
  (ih x0 x1 x2 (IntKind.i64.wrap (x4 + 1)) (IntKind.i64.wrap (x4 + 1)) ((r69 x19 x20 x6 x1).1) (IntKind.i64.wrap (x6 + 1)) x7 x8 x9 ((r69 x19 x20 x6 x1).1) ((r69 x19 x20 x6 x1).2) x12 x13 x14 x15 x16 x17 x18 x19 x20 ((r69 x19 x20 x6 x1).1) ((r69 x19 x20 x6 x1).2) x23 x24)
  (ih x0 x1 x2 x3 (IntKind.i64.wrap (x4 + 1)) ((r69 x19 x20 x6 x1).1) (IntKind.i64.wrap (x6 + 1)) x7 x8 x9 ((r69 x19 x20 x6 x1).1) ((r69 x19 x20 x6 x1).2) x12 x13 x14 x15 x16 x17 x18 x19 x20 x21 x22 x23 x24))
  (cond (decide (((IntKind.i64.wrap (x4 + 1)) : Int) > x3))
  (ih x0 x1 x2 (IntKind.i64.wrap (x4 + 1)) (IntKind.i64.wrap (x4 + 1)) x5 (IntKind.i64.wrap (x6 + 1)) x7 x8 x9 ((r69 x19 x20 x6 x1).1) ((r69 x19 x20 x6 x1).2) x12 x13 x14 x15 x16 x17 x18 x19 x20 x5 ((r69 x19 x20 x6 x1).2) x23 x24)
  (ih x0 x1 x2 x3 (IntKind.i64.wrap (x4 + 1)) x5 (IntKind.i64.wrap (x6 + 1)) x7 x8 x9 ((r69 x19 x20 x6 x1).1) ((r69 x19 x20 x6 x1).2) x12 x13 x14 x15 x16 x17 x18 x19 x20 x21 x22 x23 x24))))
  (1, 0, 0, 0, 0, 0, 0, 0, 0, 0, 0, 0))
  (1, 0, 0, 0, 0, 0, 0, 0, 0, 0, 0, 0))
  (cond (Nat.beq (0 + (Int.toNat x0) * 2) 4)
  (cond (Nat.beq ((r62 x7 x8 x9 x10 ((r69 x19 x20 x6 x1).1) ((r69 x19 x20 x6 x1).2) x13 x14 x23 x24).1) 0)
  (cond ((decide ((0 : Int) ≤ x2)) && (Nat.blt (Int.toNat x2) (((r62 x7 x8 x9 x10 ((r69 x19 x20 x6 x1).1) ((r69 x19 x20 x6 x1).2) x13 x14 x23 x24).2).length)))
  (cond (!c150)
  (ih x0 x1 x2 x3 0 x5 (IntKind.i64.wrap (x6 + 1)) x7 x8 x9 x10 ((r69 x19 x20 x6 x1).1) ((r69 x19 x20 x6 x1).2) x13 x14 x15 x16 x17 x18 x19 x20 x21 x22 x23 x24)
  (cond ((x4 : Int) == 0)
  (cond (decide (((IntKind.i64.wrap (x4 + 1)) : Int) > x3))
  (ih x0 x1 x2 (IntKind.i64.wrap (x4 + 1)) (IntKind.i64.wrap (x4 + 1)) ((r69 x19 x20 x6 x1).1) (IntKind.i64.wrap (x6 + 1)) x7 x8 x9 x10 ((r69 x19 x20 x6 x1).1) ((r69 x19 x20 x6 x1).2) x13 x14 x15 x16 x17 x18 x19 x20 ((r69 x19 x20 x6 x1).1) ((r69 x19 x20 x6 x1).2) x23 x24)
  (ih x0 x1 x2 x3 (IntKind.i64.wrap (x4 + 1)) ((r69 x19 x20 x6 x1).1) (IntKind.i64.wrap (x6 + 1)) x7 x8 x9 x10 ((r69 x19 x20 x6 x1).1) ((r69 x19 x20 x6 x1).2) x13 x14 x15 x16 x17 x18 x19 x20 x21 x22 x23 x24))
  (cond (decide (((IntKind.i64.wrap (x4 + 1)) : Int) > x3))
  (ih x0 x1 x2 (IntKind.i64.wrap (x4 + 1)) (IntKind.i64.wrap (x4 + 1)) x5 (IntKind.i64.wrap (x6 + 1)) x7 x8 x9 x10 ((r69 x19 x20 x6 x1).1) ((r69 x19 x20 x6 x1).2) x13 x14 x15 x16 x17 x18 x19 x20 x5 ((r69 x19 x20 x6 x1).2) x23 x24)
  (ih x0 x1 x2 x3 (IntKind.i64.wrap (x4 + 1)) x5 (IntKind.i64.wrap (x6 + 1)) x7 x8 x9 x10 ((r69 x19 x20 x6 x1).1) ((r69 x19 x20 x6 x1).2) x13 x14 x15 x16 x17 x18 x19 x20 x21 x22 x23 x24))))
  (1, 0, 0, 0, 0, 0, 0, 0, 0, 0, 0, 0))
  (1, 0, 0, 0, 0, 0, 0, 0, 0, 0, 0, 0))
  (cond (Nat.beq (0 + (Int.toNat x0) * 2) 5)
  (cond (Nat.beq ((r62 x7 x8 x9 x10 x11 ((r69 x19 x20 x6 x1).1) ((r69 x19 x20 x6 x1).2) x14 x23 x24).1) 0)
  (cond ((decide ((0 : Int) ≤ x2)) && (Nat.blt (Int.toNat x2) (((r62 x7 x8 x9 x10 x11 ((r69 x19 x20 x6 x1).1) ((r69 x19 x20 x6 x1).2) x14 x23 x24).2).length)))
  (cond (!c151)
  (ih x0 x1 x2 x3 0 x5 (IntKind.i64.wrap (x6 + 1)) x7 x8 x9 x10 x11 ((r69 x19 x20 x6 x1).1) ((r69 x19 x20 x6 x1).2) x14 x15 x16 x17 x18 x19 x20 x21 x22 x23 x24)
  (cond ((x4 : Int) == 0)
  (cond (decide (((IntKind.i64.wrap (x4 + 1)) : Int) > x3))
  (ih x0 x1 x2 (IntKind.i64.wrap (x4 + 1)) (IntKind.i64.wrap (x4 + 1)) ((r69 x19 x20 x6 x1).1) (IntKind.i64.wrap (x6 + 1)) x7 x8 x9 x10 x11 ((r69 x19 x20 x6 x1).1) ((r69 x19 x20 x6 x1).2) x14 x15 x16 x17 x18 x19 x20 ((r69 x19 x20 x6 x1).1) ((r69 x19 x20 x6 x1).2) x23 x24)
  (ih x0 x1 x2 x3 (IntKind.i64.wrap (x4 + 1)) ((r69 x19 x20 x6 x1).1) (IntKind.i64.wrap (x6 + 1)) x7 x8 x9 x10 x11 ((r69 x19 x20 x6 x1).1) ((r69 x19 x20 x6 x1).2) x14 x15 x16 x17 x18 x19 x20 x21 x22 x23 x24))
  (cond (decide (((IntKind.i64.wrap (x4 + 1)) : Int) > x3))
  (ih x0 x1 x2 (IntKind.i64.wrap (x4 + 1)) (IntKind.i64.wrap (x4 + 1)) x5 (IntKind.i64.wrap (x6 + 1)) x7 x8 x9 x10 x11 ((r69 x19 x20 x6 x1).1) ((r69 x19 x20 x6 x1).2) x14 x15 x16 x17 x18 x19 x20 x5 ((r69 x19 x20 x6 x1).2) x23 x24)
  (ih x0 x1 x2 x3 (IntKind.i64.wrap (x4 + 1)) x5 (IntKind.i64.wrap (x6 + 1)) x7 x8 x9 x10 x11 ((r69 x19 x20 x6 x1).1) ((r69 x19 x20 x6 x1).2) x14 x15 x16 x17 x18 x19 x20 x21 x22 x23 x24))))
  (1, 0, 0, 0, 0, 0, 0, 0, 0, 0, 0, 0))
  (1, 0, 0, 0, 0, 0, 0, 0, 0, 0, 0, 0))
  (cond (Nat.beq (0 + (Int.toNat x0) * 2) 6)
  (cond (Nat.beq ((r62 x7 x8 x9 x10 x11 x12 ((r69 x19 x20 x6 x1).1) ((r69 x19 x20 x6 x1).2) x23 x24).1) 0)
  (cond ((decide ((0 : Int) ≤ x2)) && (Nat.blt (Int.toNat x2) (((r62 x7 x8 x9 x10 x11 x12 ((r69 x19 x20 x6 x1).1) ((r69 x19 x20 x6 x1).2) x23 x24).2).length)))
  (cond (!c152)
  (ih x0 x1 x2 x3 0 x5 (IntKind.i64.wrap (x6 + 1)) x7 x8 x9 x10 x11 x12 ((r69 x19 x20 x6 x1).1) ((r69 x19 x20 x6 x1).2) x15 x16 x17 x18 x19 x20 x21 x22 x23 x24)
  (cond ((x4 : Int) == 0)
  (cond (decide (((IntKind.i64.wrap (x4 + 1)) : Int) > x3))
  (ih x0 x1 x2 (IntKind.i64.wrap (x4 + 1)) (IntKind.i64.wrap (x4 + 1)) ((r69 x19 x20 x6 x1).1) (IntKind.i64.wrap (x6 + 1)) x7 x8 x9 x10 x11 x12 ((r69 x19 x20 x6 x1).1) ((r69 x19 x20 x6 x1).2) x15 x16 x17 x18 x19 x20 ((r69 x19 x20 x6 x1).1) ((r69 x19 x20 x6 x1).2) x23 x24)
  (ih x0 x1 x2 x3 (IntKind.i64.wrap (x4 + 1)) ((r69 x19 x20 x6 x1).1) (IntKind.i64.wrap (x6 + 1)) x7 x8 x9 x10 x11 x12 ((r69 x19 x20 x6 x1).1) ((r69 x19 x20 x6 x1).2) x15 x16 x17 x18 x19 x20 x21 x22 x23 x24))
  (cond (decide (((IntKind.i64.wrap (x4 + 1)) : Int) > x3))
  (ih x0 x1 x2 (IntKind.i64.wrap (x4 + 1)) (IntKind.i64.wrap (x4 + 1)) x5 (IntKind.i64.wrap (x6 + 1)) x7 x8 x9 x10 x11 x12 ((r69 x19 x20 x6 x1).1) ((r69 x19 x20 x6 x1).2) x15 x16 x17 x18 x19 x20 x5 ((r69 x19 x20 x6 x1).2) x23 x24)
  (ih x0 x1 x2 x3 (IntKind.i64.wrap (x4 + 1)) x5 (IntKind.i64.wrap (x6 + 1)) x7 x8 x9 x10 x11 x12 ((r69 x19 x20 x6 x1).1) ((r69 x19 x20 x6 x1).2) x15 x16 x17 x18 x19 x20 x21 x22 x23 x24))))
  (1, 0, 0, 0, 0, 0, 0, 0, 0, 0, 0, 0))
  (1, 0, 0, 0, 0, 0, 0, 0, 0, 0, 0, 0))
  (1, 0, 0, 0, 0, 0, 0, 0, 0, 0, 0, 0))))))))
  (1, 0, 0, 0, 0, 0, 0, 0, 0, 0, 0, 0))
  (0, x3, x7, x8, x9, x10, x11, x12, x13, x14, x21, x22)
noncomputable def r36l1 : Nat → Int → Int → Int → Int → Int → Nat → Int → Nat → Nat → Nat → Nat → Nat → Nat → Nat → Nat → Nat → Nat → Nat → Nat → Nat → Nat → Nat → Nat → List ByteArray → List (List Int) → (Nat × Int × Nat × Nat × Nat × Nat × Nat × Nat × Nat × Nat × Nat × Nat)
 | 0 => fun _ _ _ _ _ _ _ _ _ _ _ _ _ _ _ _ _ _ _ _ _ _ _ _ _ => (1, 0, 0, 0, 0, 0, 0, 0, 0, 0, 0, 0)
 | m + 1 => b36l1 (r36l1 m)
noncomputable def a36l1 (x0 x1 x2 x3 x4 : Int) (x5 : Nat) (x6 : Int) (x7 x8 x9 x10 x11 x12 x13 x14 x15 x16 x17 x18 x19 x20 x21 x22 : Nat) (x23 : List ByteArray) (x24 : List (List Int)) (p : Nat × Int × Nat × Nat × Nat × Nat × Nat × Nat × Nat × Nat × Nat × Nat) : Option (Fin' × List Value × St) := firstT ([((Nat.beq (p.1) 0), .exit 2, [.pointer (some ⟨3, 0, some 0⟩), .pointer (some ⟨5, 0, some 0⟩), .int .i64 (p.2.1)], ⟨[⟨true, (some (.cells [wsl 6, wsl 7]))⟩, ⟨true, (some (.cells [.float .f32 (p.2.2.1), .float .f32 (p.2.2.2.1), .float .f32 (p.2.2.2.2.1), .float .f32 (p.2.2.2.2.2.1), .float .f32 (p.2.2.2.2.2.2.1), .float .f32 (p.2.2.2.2.2.2.2.1), .float .f32 (p.2.2.2.2.2.2.2.2.1), .float .f32 (p.2.2.2.2.2.2.2.2.2.1)]))⟩, ⟨true, (some (.cells [.float .f32 x15, .float .f32 x16]))⟩, ⟨true, (some (.cells [.float .f32 x17, .float .f32 x18]))⟩, ⟨true, (some (.cells [.float .f32 x19, .float .f32 x20]))⟩, ⟨true, (some (.cells [.float .f32 (p.2.2.2.2.2.2.2.2.2.2.1), .float .f32 (p.2.2.2.2.2.2.2.2.2.2.2)]))⟩, ⟨true, (some (.strs x23))⟩, ⟨true, (some (.tab [.int .i8, .int .i16, .fl .f32] x24))⟩], 8, [1, 5]⟩)].map fun (b, x) => (b, (x.1, frameOf 117 [12, 19, 20] x.2.1, x.2.2)))
noncomputable def u36l1 (x0 x1 x2 x3 x4 : Int) (x5 : Nat) (x6 : Int) (x7 x8 x9 x10 x11 x12 x13 x14 x15 x16 x17 x18 x19 x20 x21 x22 : Nat) (x23 : List ByteArray) (x24 : List (List Int)) (p : Nat × Int × Nat × Nat × Nat × Nat × Nat × Nat × Nat × Nat × Nat × Nat) : Option (Fin' × List Value × St) := alts ([((Nat.beq (p.1) 0), .exit 2, [.pointer (some ⟨3, 0, some 0⟩), .pointer (some ⟨5, 0, some 0⟩), .int .i64 (p.2.1)], ⟨[⟨true, (some (.cells [wsl 6, wsl 7]))⟩, ⟨true, (some (.cells [.float .f32 (p.2.2.1), .float .f32 (p.2.2.2.1), .float .f32 (p.2.2.2.2.1), .float .f32 (p.2.2.2.2.2.1), .float .f32 (p.2.2.2.2.2.2.1), .float .f32 (p.2.2.2.2.2.2.2.1), .float .f32 (p.2.2.2.2.2.2.2.2.1), .float .f32 (p.2.2.2.2.2.2.2.2.2.1)]))⟩, ⟨true, (some (.cells [.float .f32 x15, .float .f32 x16]))⟩, ⟨true, (some (.cells [.float .f32 x17, .float .f32 x18]))⟩, ⟨true, (some (.cells [.float .f32 x19, .float .f32 x20]))⟩, ⟨true, (some (.cells [.float .f32 (p.2.2.2.2.2.2.2.2.2.2.1), .float .f32 (p.2.2.2.2.2.2.2.2.2.2.2)]))⟩, ⟨true, (some (.strs x23))⟩, ⟨true, (some (.tab [.int .i8, .int .i16, .fl .f32] x24))⟩], 8, [1, 5]⟩)].map fun (b, x) => (b, (x.1, frameOf 117 [12, 19, 20] x.2.1, x.2.2))) some
theorem v36l1 (x0 x1 x2 x3 x4 : Int) (x5 : Nat) (x6 : Int) (x7 x8 x9 x10 x11 x12 x13 x14 x15 x16 x17 x18 x19 x20 x21 x22 : Nat) (x23 : List ByteArray) (x24 : List (List Int)) (p : Nat × Int × Nat × Nat × Nat × Nat × Nat × Nat × Nat × Nat × Nat × Nat) : u36l1 x0 x1 x2 x3 x4 x5 x6 x7 x8 x9 x10 x11 x12 x13 x14 x15 x16 x17 x18 x19 x20 x21 x22 x23 x24 p = a36l1 x0 x1 x2 x3 x4 x5 x6 x7 x8 x9 x10 x11 x12 x13 x14 x15 x16 x17 x18 x19 x20 x21 x22 x23 x24 p := alts_first _
noncomputable def q36l1 (m : Nat) : SumK := fun vals s =>
 match vals, s.h with
 | [.int .i64 x0, .int .i64 x1, .pointer (some ⟨f0, f1, some f2⟩), .pointer (some ⟨f3, f4, some f5⟩), .pointer (some ⟨f6, f7, some f8⟩), .pointer (some ⟨f9, f10, some f11⟩), .int .i64 x2, .pointer (some ⟨f12, f13, some f14⟩), .pointer (some ⟨f15, f16, some f17⟩), .int .i64 x3, .int .i64 x4, .float .f32 x5, .int .i64 x6], [⟨true, some (.cells [.iface f18 .nilIface, .iface f19 .nilIface])⟩, ⟨true, some (.cells [.float .f32 x7, .float .f32 x8, .float .f32 x9, .float .f32 x10, .float .f32 x11, .float .f32 x12, .float .f32 x13, .float .f32 x14])⟩, ⟨true, some (.cells [.float .f32 x15, .float .f32 x16])⟩, ⟨true, some (.cells [.float .f32 x17, .float .f32 x18])⟩, ⟨true, some (.cells [.float .f32 x19, .float .f32 x20])⟩, ⟨true, some (.cells [.float .f32 x21, .float .f32 x22])⟩, ⟨true, some (.strs x23)⟩, ⟨true, some (.tab [.int .i8, .int .i16, .fl .f32] x24)⟩] => if f0 = 0 ∧ f1 = 0 ∧ f2 = 0 ∧ f3 = 1 ∧ f4 = 0 ∧ f5 = 0 ∧ f6 = 2 ∧ f7 = 0 ∧ f8 = 0 ∧ f9 = 3 ∧ f10 = 0 ∧ f11 = 0 ∧ f12 = 4 ∧ f13 = 0 ∧ f14 = 0 ∧ f15 = 5 ∧ f16 = 0 ∧ f17 = 0 ∧ f18 = 6 ∧ f19 = 7 then [((Nat.beq ((r36l1 m x0 x1 x2 x3 x4 x5 x6 x7 x8 x9 x10 x11 x12 x13 x14 x15 x16 x17 x18 x19 x20 x21 x22 x23 x24).1) 0), .exit 2, [.pointer (some ⟨3, 0, some 0⟩), .pointer (some ⟨5, 0, some 0⟩), .int .i64 ((r36l1 m x0 x1 x2 x3 x4 x5 x6 x7 x8 x9 x10 x11 x12 x13 x14 x15 x16 x17 x18 x19 x20 x21 x22 x23 x24).2.1)], ⟨[⟨true, (some (.cells [wsl 6, wsl 7]))⟩, ⟨true, (some (.cells [.float .f32 ((r36l1 m x0 x1 x2 x3 x4 x5 x6 x7 x8 x9 x10 x11 x12 x13 x14 x15 x16 x17 x18 x19 x20 x21 x22 x23 x24).2.2.1), .float .f32 ((r36l1 m x0 x1 x2 x3 x4 x5 x6 x7 x8 x9 x10 x11 x12 x13 x14 x15 x16 x17 x18 x19 x20 x21 x22 x23 x24).2.2.2.1), .float .f32 ((r36l1 m x0 x1 x2 x3 x4 x5 x6 x7 x8 x9 x10 x11 x12 x13 x14 x15 x16 x17 x18 x19 x20 x21 x22 x23 x24).2.2.2.2.1), .float .f32 ((r36l1 m x0 x1 x2 x3 x4 x5 x6 x7 x8 x9 x10 x11 x12 x13 x14 x15 x16 x17 x18 x19 x20 x21 x22 x23 x24).2.2.2.2.2.1), .float .f32 ((r36l1 m x0 x1 x2 x3 x4 x5 x6 x7 x8 x9 x10 x11 x12 x13 x14 x15 x16 x17 x18 x19 x20 x21 x22 x23 x24).2.2.2.2.2.2.1), .float .f32 ((r36l1 m x0 x1 x2 x3 x4 x5 x6 x7 x8 x9 x10 x11 x12 x13 x14 x15 x16 x17 x18 x19 x20 x21 x22 x23 x24).2.2.2.2.2.2.2.1), .float .f32 ((r36l1 m x0 x1 x2 x3 x4 x5 x6 x7 x8 x9 x10 x11 x12 x13 x14 x15 x16 x17 x18 x19 x20 x21 x22 x23 x24).2.2.2.2.2.2.2.2.1), .float .f32 ((r36l1 m x0 x1 x2 x3 x4 x5 x6 x7 x8 x9 x10 x11 x12 x13 x14 x15 x16 x17 x18 x19 x20 x21 x22 x23 x24).2.2.2.2.2.2.2.2.2.1)]))⟩, ⟨true, (some (.cells [.float .f32 x15, .float .f32 x16]))⟩, ⟨true, (some (.cells [.float .f32 x17, .float .f32 x18]))⟩, ⟨true, (some (.cells [.float .f32 x19, .float .f32 x20]))⟩, ⟨true, (some (.cells [.float .f32 ((r36l1 m x0 x1 x2 x3 x4 x5 x6 x7 x8 x9 x10 x11 x12 x13 x14 x15 x16 x17 x18 x19 x20 x21 x22 x23 x24).2.2.2.2.2.2.2.2.2.2.1), .float .f32 ((r36l1 m x0 x1 x2 x3 x4 x5 x6 x7 x8 x9 x10 x11 x12 x13 x14 x15 x16 x17 x18 x19 x20 x21 x22 x23 x24).2.2.2.2.2.2.2.2.2.2.2)]))⟩, ⟨true, (some (.strs x23))⟩, ⟨true, (some (.tab [.int .i8, .int .i16, .fl .f32] x24))⟩], 8, [1, 5]⟩)] else noQ vals s
 | _, _ => noQ vals s
noncomputable def w36l1 (ih : Int → Int → Int → Int → Int → Nat → Int → Nat → Nat → Nat → Nat → Nat → Nat → Nat → Nat → Nat → Nat → Nat → Nat → Nat → Nat → Nat → Nat → List ByteArray → List (List Int) → (Nat × Int × Nat × Nat × Nat × Nat × Nat × Nat × Nat × Nat × Nat × Nat)) (x0 x1 x2 x3 x4 : Int) (x5 : Nat) (x6 : Int) (x7 x8 x9 x10 x11 x12 x13 x14 x15 x16 x17 x18 x19 x20 x21 x22 : Nat) (x23 : List ByteArray) (x24 : List (List Int)) : Option (Fin' × List Value × St) :=
 let c146 := (r61 (Int.toNat ((((r62 ((r69 x19 x20 x6 x1).1) ((r69 x19 x20 x6 x1).2) x9 x10 x11 x12 x13 x14 x23 x24).2).getD (Int.toNat x2) []).getD 0 0)) (Int.toNat ((((r62 ((r69 x19 x20 x6 x1).1) ((r69 x19 x20 x6 x1).2) x9 x10 x11 x12 x13 x14 x23 x24).2).getD (Int.toNat x2) []).getD 1 0)) x15 x16)
 let c147 := (r61 (Int.toNat ((((r62 x7 ((r69 x19 x20 x6 x1).1) ((r69 x19 x20 x6 x1).2) x10 x11 x12 x13 x14 x23 x24).2).getD (Int.toNat x2) []).getD 0 0)) (Int.toNat ((((r62 x7 ((r69 x19 x20 x6 x1).1) ((r69 x19 x20 x6 x1).2) x10 x11 x12 x13 x14 x23 x24).2).getD (Int.toNat x2) []).getD 1 0)) x15 x16)
 let c148 := (r61 (Int.toNat ((((r62 x7 x8 ((r69 x19 x20 x6 x1).1) ((r69 x19 x20 x6 x1).2) x11 x12 x13 x14 x23 x24).2).getD (Int.toNat x2) []).getD 0 0)) (Int.toNat ((((r62 x7 x8 ((r69 x19 x20 x6 x1).1) ((r69 x19 x20 x6 x1).2) x11 x12 x13 x14 x23 x24).2).getD (Int.toNat x2) []).getD 1 0)) x15 x16)
 let c149 := (r61 (Int.toNat ((((r62 x7 x8 x9 ((r69 x19 x20 x6 x1).1) ((r69 x19 x20 x6 x1).2) x12 x13 x14 x23 x24).2).getD (Int.toNat x2) []).getD 0 0)) (Int.toNat ((((r62 x7 x8 x9 ((r69 x19 x20 x6 x1).1) ((r69 x19 x20 x6 x1).2) x12 x13 x14 x23 x24).2).getD (Int.toNat x2) []).getD 1 0)) x15 x16)
 let c150 := (r61 (Int.toNat ((((r62 x7 x8 x9 x10 ((r69 x19 x20 x6 x1).1) ((r69 x19 x20 x6 x1).2) x13 x14 x23 x24).2).getD (Int.toNat x2) []).getD 0 0)) (Int.toNat ((((r62 x7 x8 x9 x10 ((r69 x19 x20 x6 x1).1) ((r69 x19 x20 x6 x1).2) x13 x14 x23 x24).2).getD (Int.toNat x2) []).getD 1 0)) x15 x16)
 let c151 := (r61 (Int.toNat ((((r62 x7 x8 x9 x10 x11 ((r69 x19 x20 x6 x1).1) ((r69 x19 x20 x6 x1).2) x14 x23 x24).2).getD (Int.toNat x2) []).getD 0 0)) (Int.toNat ((((r62 x7 x8 x9 x10 x11 ((r69 x19 x20 x6 x1).1) ((r69 x19 x20 x6 x1).2) x14 x23 x24).2).getD (Int.toNat x2) []).getD 1 0)) x15 x16)
 let c152 := (r61 (Int.toNat ((((r62 x7 x8 x9 x10 x11 x12 ((r69 x19 x20 x6 x1).1) ((r69 x19 x20 x6 x1).2) x23 x24).2).getD (Int.toNat x2) []).getD 0 0)) (Int.toNat ((((r62 x7 x8 x9 x10 x11 x12 ((r69 x19 x20 x6 x1).1) ((r69 x19 x20 x6 x1).2) x23 x24).2).getD (Int.toNat x2) []).getD 1 0)) x15 x16)
 (cond (decide ((x6 : Int) < x1))
 (cond ((decide ((0 : Int) ≤ x0)) && (Nat.blt (Int.toNat x0) 4))
  (cond (Nat.beq (0 + (Int.toNat x0) * 2) 0)
  (cond (Nat.beq ((r62 ((r69 x19 x20 x6 x1).1) ((r69 x19 x20 x6 x1).2) x9 x10 x11 x12 x13 x14 x23 x24).1) 0)
  (cond ((decide ((0 : Int) ≤ x2)) && (Nat.blt (Int.toNat x2) (((r62 ((r69 x19 x20 x6 x1).1) ((r69 x19 x20 x6 x1).2) x9 x10 x11 x12 x13 x14 x23 x24).2).length)))
  (cond (Nat.blt (Int.toNat x2) (((r62 ((r69 x19 x20 x6 x1).1) ((r69 x19 x20 x6 x1).2) x9 x10 x11 x12 x13 x14 x23 x24).2).length))
  (cond (!c146)
  (u36l1 x0 x1 x2 x3 x4 x5 x6 x7 x8 x9 x10 x11 x12 x13 x14 x15 x16 x17 x18 x19 x20 x21 x22 x23 x24 (ih x0 x1 x2 x3 0 x5 (IntKind.i64.wrap (x6 + 1)) ((r69 x19 x20 x6 x1).1) ((r69 x19 x20 x6 x1).2) x9 x10 x11 x12 x13 x14 x15 x16 x17 x18 x19 x20 x21 x22 x23 x24))
  (cond ((x4 : Int) == 0)
  (cond (decide (((IntKind.i64.wrap (x4 + 1)) : Int) > x3))
  (u36l1 x0 x1 x2 x3 x4 x5 x6 x7 x8 x9 x10 x11 x12 x13 x14 x15 x16 x17 x18 x19 x20 x21 x22 x23 x24 (ih x0 x1 x2 (IntKind.i64.wrap (x4 + 1)) (IntKind.i64.wrap (x4 + 1)) ((r69 x19 x20 x6 x1).1) (IntKind.i64.wrap (x6 + 1)) ((r69 x19 x20 x6 x1).1) ((r69 x19 x20 x6 x1).2) x9 x10 x11 x12 x13 x14 x15 x16 x17 x18 x19 x20 ((r69 x19 x20 x6 x1).1) ((r69 x19 x20 x6 x1).2) x23 x24))
  (u36l1 x0 x1 x2 x3 x4 x5 x6 x7 x8 x9 x10 x11 x12 x13 x14 x15 x16 x17 x18 x19 x20 x21 x22 x23 x24 (ih x0 x1 x2 x3 (IntKind.i64.wrap (x4 + 1)) ((r69 x19 x20 x6 x1).1) (IntKind.i64.wrap (x6 + 1)) ((r69 x19 x20 x6 x1).1) ((r69 x19 x20 x6 x1).2) x9 x10 x11 x12 x13 x14 x15 x16 x17 x18 x19 x20 x21 x22 x23 x24)))
  (cond (decide (((IntKind.i64.wrap (x4 + 1)) : Int) > x3))
  (u36l1 x0 x1 x2 x3 x4 x5 x6 x7 x8 x9 x10 x11 x12 x13 x14 x15 x16 x17 x18 x19 x20 x21 x22 x23 x24 (ih x0 x1 x2 (IntKind.i64.wrap (x4 + 1)) (IntKind.i64.wrap (x4 + 1)) x5 (IntKind.i64.wrap (x6 + 1)) ((r69 x19 x20 x6 x1).1) ((r69 x19 x20 x6 x1).2) x9 x10 x11 x12 x13 x14 x15 x16 x17 x18 x19 x20 x5 ((r69 x19 x20 x6 x1).2) x23 x24))
  (u36l1 x0 x1 x2 x3 x4 x5 x6 x7 x8 x9 x10 x11 x12 x13 x14 x15 x16 x17 x18 x19 x20 x21 x22 x23 x24 (ih x0 x1 x2 x3 (IntKind.i64.wrap (x4 + 1)) x5 (IntKind.i64.wrap (x6 + 1)) ((r69 x19 x20 x6 x1).1) ((r69 x19 x20 x6 x1).2) x9 x10 x11 x12 x13 x14 x15 x16 x17 x18 x19 x20 x21 x22 x23 x24)))))
  none)
  none)
  none)
  (cond (Nat.beq (0 + (Int.toNat x0) * 2) 1)
  (cond (Nat.beq ((r62 x7 ((r69 x19 x20 x6 x1).1) ((r69 x19 x20 x6 x1).2) x10 x11 x12 x13 x14 x23 x24).1) 0)
  (cond ((decide ((0 : Int) ≤ x2)) && (Nat.blt (Int.toNat x2) (((r62 x7 ((r69 x19 x20 x6 x1).1) ((r69 x19 x20 x6 x1).2) x10 x11 x12 x13 x14 x23 x24).2).length)))
  (cond (Nat.blt (Int.toNat x2) (((r62 x7 ((r69 x19 x20 x6 x1).1) ((r69 x19 x20 x6 x1).2) x10 x11 x12 x13 x14 x23 x24).2).length))
  (cond (!c147)
  (u36l1 x0 x1 x2 x3 x4 x5 x6 x7 x8 x9 x10 x11 x12 x13 x14 x15 x16 x17 x18 x19 x20 x21 x22 x23 x24 (ih x0 x1 x2 x3 0 x5 (IntKind.i64.wrap (x6 + 1)) x7 ((r69 x19 x20 x6 x1).1) ((r69 x19 x20 x6 x1).2) x10 x11 x12 x13 x14 x15 x16 x17 x18 x19 x20 x21 x22 x23 x24))
  (cond ((x4 : Int) == 0)
  (cond (decide (((IntKind.i64.wrap (x4 + 1)) : Int) > x3))
  (u36l1 x0 x1 x2 x3 x4 x5 x6 x7 x8 x9 x10 x11 x12 x13 x14 x15 x16 x17 x18 x19 x20 x21 x22 x23 x24 (ih x0 x1 x2 (IntKind.i64.wrap (x4 + 1)) (IntKind.i64.wrap (x4 + 1)) ((r69 x19 x20 x6 x1).1) (IntKind.i64.wrap (x6 + 1)) x7 ((r69 x19 x20 x6 x1).1) ((r69 x19 x20 x6 x1).2) x10 x11 x12 x13 x14 x15 x16 x17 x18 x19 x20 ((r69 x19 x20 x6 x1).1) ((r69 x19 x20 x6 x1).2) x23 x24))
  (u36l1 x0 x1 x2 x3 x4 x5 x6 x7 x8 x9 x10 x11 x12 x13 x14 x15 x16 x17 x18 x19 x20 x21 x22 x23 x24 (ih x0 x1 x2 x3 (IntKind.i64.wrap (x4 + 1)) ((r69 x19 x20 x6 x1).1) (IntKind.i64.wrap (x6 + 1)) x7 ((r69 x19 x20 x6 x1).1) ((r69 x19 x20 x6 x1).2) x10 x11 x12 x13 x14 x15 x16 x17 x18 x19 x20 x21 x22 x23 x24)))
  (cond (decide (((IntKind.i64.wrap (x4 + 1)) : Int) > x3))
  (u36l1 x0 x1 x2 x3 x4 x5 x6 x7 x8 x9 x10 x11 x12 x13 x14 x15 x16 x17 x18 x19 x20 x21 x22 x23 x24 (ih x0 x1 x2 (IntKind.i64.wrap (x4 + 1)) (IntKind.i64.wrap (x4 + 1)) x5 (IntKind.i64.wrap (x6 + 1)) x7 ((r69 x19 x20 x6 x1).1) ((r69 x19 x20 x6 x1).2) x10 x11 x12 x13 x14 x15 x16 x17 x18 x19 x20 x5 ((r69 x19 x20 x6 x1).2) x23 x24))
  (u36l1 x0 x1 x2 x3 x4 x5 x6 x7 x8 x9 x10 x11 x12 x13 x14 x15 x16 x17 x18 x19 x20 x21 x22 x23 x24 (ih x0 x1 x2 x3 (IntKind.i64.wrap (x4 + 1)) x5 (IntKind.i64.wrap (x6 + 1)) x7 ((r69 x19 x20 x6 x1).1) ((r69 x19 x20 x6 x1).2) x10 x11 x12 x13 x14 x15 x16 x17 x18 x19 x20 x21 x22 x23 x24)))))
  none)
  none)
  none)
  (cond (Nat.beq (0 + (Int.toNat x0) * 2) 2)
  (cond (Nat.beq ((r62 x7 x8 ((r69 x19 x20 x6 x1).1) ((r69 x19 x20 x6 x1).2) x11 x12 x13 x14 x23 x24).1) 0)
  (cond ((decide ((0 : Int) ≤ x2)) && (Nat.blt (Int.toNat x2) (((r62 x7 x8 ((r69 x19 x20 x6 x1).1) ((r69 x19 x20 x6 x1).2) x11 x12 x13 x14 x23 x24).2).length)))
  (cond (Nat.blt (Int.toNat x2) (((r62 x7 x8 ((r69 x19 x20 x6 x1).1) ((r69 x19 x20 x6 x1).2) x11 x12 x13 x14 x23 x24).2).length))
  (cond (!c148)
  (u36l1 x0 x1 x2 x3 x4 x5 x6 x7 x8 x9 x10 x11 x12 x13 x14 x15 x16 x17 x18 x19 x20 x21 x22 x23 x24 (ih x0 x1 x2 x3 0 x5 (IntKind.i64.wrap (x6 + 1)) x7 x8 ((r69 x19 x20 x6 x1).1) ((r69 x19 x20 x6 x1).2) x11 x12 x13 x14 x15 x16 x17 x18 x19 x20 x21 x22 x23 x24))
  (cond ((x4 : Int) == 0)
  (cond (decide (((IntKind.i64.wrap (x4 + 1)) : Int) > x3))
  (u36l1 x0 x1 x2 x3 x4 x5 x6 x7 x8 x9 x10 x11 x12 x13 x14 x15 x16 x17 x18 x19 x20 x21 x22 x23 x24 (ih x0 x1 x2 (IntKind.i64.wrap (x4 + 1)) (IntKind.i64.wrap (x4 + 1)) ((r69 x19 x20 x6 x1).1) (IntKind.i64.wrap (x6 + 1)) x7 x8 ((r69 x19 x20 x6 x1).1) ((r69 x19 x20 x6 x1).2) x11 x12 x13 x14 x15 x16 x17 x18 x19 x20 ((r69 x19 x20 x6 x1).1) ((r69 x19 x20 x6 x1).2) x23 x24))
  (u36l1 x0 x1 x2 x3 x4 x5 x6 x7 x8 x9 x10 x11 x12 x13 x14 x15 x16 x17 x18 x19 x20 x21 x22 x23 x24 (ih x0 x1 x2 x3 (IntKind.i64.wrap (x4 + 1)) ((r69 x19 x20 x6 x1).1) (IntKind.i64.wrap (x6 + 1)) x7 x8 ((r69 x19 x20 x6 x1).1) ((r69 x19 x20 x6 x1).2) x11 x12 x13 x14 x15 x16 x17 x18 x19 x20 x21 x22 x23 x24)))
  (cond (decide (((IntKind.i64.wrap (x4 + 1)) : Int) > x3))
  (u36l1 x0 x1 x2 x3 x4 x5 x6 x7 x8 x9 x10 x11 x12 x13 x14 x15 x16 x17 x18 x19 x20 x21 x22 x23 x24 (ih x0 x1 x2 (IntKind.i64.wrap (x4 + 1)) (IntKind.i64.wrap (x4 + 1)) x5 (IntKind.i64.wrap (x6 + 1)) x7 x8 ((r69 x19 x20 x6 x1).1) ((r69 x19 x20 x6 x1).2) x11 x12 x13 x14 x15 x16 x17 x18 x19 x20 x5 ((r69 x19 x20 x6 x1).2) x23 x24))
  (u36l1 x0 x1 x2 x3 x4 x5 x6 x7 x8 x9 x10 x11 x12 x13 x14 x15 x16 x17 x18 x19 x20 x21 x22 x23 x24 (ih x0 x1 x2 x3 (IntKind.i64.wrap (x4 + 1)) x5 (IntKind.i64.wrap (x6 + 1)) x7 x8 ((r69 x19 x20 x6 x1).1) ((r69 x19 x20 x6 x1).2) x11 x12 x13 x14 x15 x16 x17 x18 x19 x20 x21 x22 x23 x24)))))
  none)
  none)
  none)
  (cond (Nat.beq (0 + (Int.toNat x0) * 2) 3)
  (cond (Nat.beq ((r62 x7 x8 x9 ((r69 x19 x20 x6 x1).1) ((r69 x19 x20 x6 x1).2) x12 x13 x14 x23 x24).1) 0)
  (cond ((decide ((0 : Int) ≤ x2)) && (Nat.blt (Int.toNat x2) (((r62 x7 x8 x9 ((r69 x19 x20 x6 x1).1) ((r69 x19 x20 x6 x1).2) x12 x13 x14 x23 x24).2).length)))
  (cond (Nat.blt (Int.toNat x2) (((r62 x7 x8 x9 ((r69 x19 x20 x6 x1).1) ((r69 x19 x20 x6 x1).2) x12 x13 x14 x23 x24).2).length))
  (cond (!c149)
  (u36l1 x0 x1 x2 x3 x4 x5 x6 x7 x8 x9 x10 x11 x12 x13 x14 x15 x16 x17 x18 x19 x20 x21 x22 x23 x24 (ih x0 x1 x2 x3 0 x5 (IntKind.i64.wrap (x6 + 1)) x7 x8 x9 ((r69 x19 x20 x6 x1).1) ((r69 x19 x20 x6 x1).2) x12 x13 x14 x15 x16 x17 x18 x19 x20 x21 x22 x23 x24))
  (cond ((x4 : Int) == 0)
  (cond (decide (((IntKind.i64.wrap (x4 + 1)) : Int) > x3))
  (u36l1 x0 x1 x2 x3 x4 x5 x6 x7 x8 x9 x10 x11 x12 x13 x14 x15 x16 x17 x18 x19 x20 x21 x22 x23 x24 (ih x0 x1 x2 (IntKind.i64.wrap (x4 + 1)) (IntKind.i64.wrap (x4 + 1)) ((r69 x19 x20 x6 x1).1) (IntKind.i64.wrap (x6 + 1)) x7 x8 x9 ((r69 x19 x20 x6 x1).1) ((r69 x19 x20 x6 x1).2) x12 x13 x14 x15 x16 x17 x18 x19 x20 ((r69 x19 x20 x6 x1).1) ((r69 x19 x20 x6 x1).2) x23 x24))
  (u36l1 x0 x1 x2 x3 x4 x5 x6 x7 x8 x9 x10 x11 x12 x13 x14 x15 x16 x17 x18 x19 x20 x21 x22 x23 x24 (ih x0 x1 x2 x3 (IntKind.i64.wrap (x4 + 1)) ((r69 x19 x20 x6 x1).1) (IntKind.i64.wrap (x6 + 1)) x7 x8 x9 ((r69 x19 x20 x6 x1).1) ((r69 x19 x20 x6 x1).2) x12 x13 x14 x15 x16 x17 x18 x19 x20 x21 x22 x23 x24)))
  (cond (decide (((IntKind.i64.wrap (x4 + 1)) : Int) > x3))
  (u36l1 x0 x1 x2 x3 x4 x5 x6 x7 x8 x9 x10 x11 x12 x13 x14 x15 x16 x17 x18 x19 x20 x21 x22 x23 x24 (ih x0 x1 x2 (IntKind.i64.wrap (x4 + 1)) (IntKind.i64.wrap (x4 + 1)) x5 (IntKind.i64.wrap (x6 + 1)) x7 x8 x9 ((r69 x19 x20 x6 x1).1) ((r69 x19 x20 x6 x1).2) x12 x13 x14 x15 x16 x17 x18 x19 x20 x5 ((r69 x19 x20 x6 x1).2) x23 x24))
  (u36l1 x0 x1 x2 x3 x4 x5 x6 x7 x8 x9 x10 x11 x12 x13 x14 x15 x16 x17 x18 x19 x20 x21 x22 x23 x24 (ih x0 x1 x2 x3 (IntKind.i64.wrap (x4 + 1)) x5 (IntKind.i64.wrap (x6 + 1)) x7 x8 x9 ((r69 x19 x20 x6 x1).1) ((r69 x19 x20 x6 x1).2) x12 x13 x14 x15 x16 x17 x18 x19 x20 x21 x22 x23 x24)))))
  none)
  none)
  none)
  (cond (Nat.beq (0 + (Int.toNat x0) * 2) 4)
  (cond (Nat.beq ((r62 x7 x8 x9 x10 ((r69 x19 x20 x6 x1).1) ((r69 x19 x20 x6 x1).2) x13 x14 x23 x24).1) 0)
  (cond ((decide ((0 : Int) ≤ x2)) && (Nat.blt (Int.toNat x2) (((r62 x7 x8 x9 x10 ((r69 x19 x20 x6 x1).1) ((r69 x19 x20 x6 x1).2) x13 x14 x23 x24).2).length)))
  (cond (Nat.blt (Int.toNat x2) (((r62 x7 x8 x9 x10 ((r69 x19 x20 x6 x1).1) ((r69 x19 x20 x6 x1).2) x13 x14 x23 x24).2).length))
  (cond (!c150)
  (u36l1 x0 x1 x2 x3 x4 x5 x6 x7 x8 x9 x10 x11 x12 x13 x14 x15 x16 x17 x18 x19 x20 x21 x22 x23 x24 (ih x0 x1 x2 x3 0 x5 (IntKind.i64.wrap (x6 + 1)) x7 x8 x9 x10 ((r69 x19 x20 x6 x1).1) ((r69 x19 x20 x6 x1).2) x13 x14 x15 x16 x17 x18 x19 x20 x21 x22 x23 x24))
  (cond ((x4 : Int) == 0)
  (cond (decide (((IntKind.i64.wrap (x4 + 1)) : Int) > x3))
  (u36l1 x0 x1 x2 x3 x4 x5 x6 x7 x8 x9 x10 x11 x12 x13 x14 x15 x16 x17 x18 x19 x20 x21 x22 x23 x24 (ih x0 x1 x2 (IntKind.i64.wrap (x4 + 1)) (IntKind.i64.wrap (x4 + 1)) ((r69 x19 x20 x6 x1).1) (IntKind.i64.wrap (x6 + 1)) x7 x8 x9 x10 ((r69 x19 x20 x6 x1).1) ((r69 x19 x20 x6 x1).2) x13 x14 x15 x16 x17 x18 x19 x20 ((r69 x19 x20 x6 x1).1) ((r69 x19 x20 x6 x1).2) x23 x24))
  (u36l1 x0 x1 x2 x3 x4 x5 x6 x7 x8 x9 x10 x11 x12 x13 x14 x15 x16 x17 x18 x19 x20 x21 x22 x23 x24 (ih x0 x1 x2 x3 (IntKind.i64.wrap (x4 + 1)) ((r69 x19 x20 x6 x1).1) (IntKind.i64.wrap (x6 + 1)) x7 x8 x9 x10 ((r69 x19 x20 x6 x1).1) ((r69 x19 x20 x6 x1).2) x13 x14 x15 x16 x17 x18 x19 x20 x21 x22 x23 x24)))
  (cond (decide (((IntKind.i64.wrap (x4 + 1)) : Int) > x3))
  (u36l1 x0 x1 x2 x3 x4 x5 x6 x7 x8 x9 x10 x11 x12 x13 x14 x15 x16 x17 x18 x19 x20 x21 x22 x23 x24 (ih x0 x1 x2 (IntKind.i64.wrap (x4 + 1)) (IntKind.i64.wrap (x4 + 1)) x5 (IntKind.i64.wrap (x6 + 1)) x7 x8 x9 x10 ((r69 x19 x20 x6 x1).1) ((r69 x19 x20 x6 x1).2) x13 x14 x15 x16 x17 x18 x19 x20 x5 ((r69 x19 x20 x6 x1).2) x23 x24))
  (u36l1 x0 x1 x2 x3 x4 x5 x6 x7 x8 x9 x10 x11 x12 x13 x14 x15 x16 x17 x18 x19 x20 x21 x22 x23 x24 (ih x0 x1 x2 x3 (IntKind.i64.wrap (x4 + 1)) x5 (IntKind.i64.wrap (x6 + 1)) x7 x8 x9 x10 ((r69 x19 x20 x6 x1).1) ((r69 x19 x20 x6 x1).2) x13 x14 x15 x16 x17 x18 x19 x20 x21 x22 x23 x24)))))
  none)
  none)
  none)
  (cond (Nat.beq (0 + (Int.toNat x0) * 2) 5)
  (cond (Nat.beq ((r62 x7 x8 x9 x10 x11 ((r69 x19 x20 x6 x1).1) ((r69 x19 x20 x6 x1).2) x14 x23 x24).1) 0)
  (cond ((decide ((0 : Int) ≤ x2)) && (Nat.blt (Int.toNat x2) (((r62 x7 x8 x9 x10 x11 ((r69 x19 x20 x6 x1).1) ((r69 x19 x20 x6 x1).2) x14 x23 x24).2).length)))
  (cond (Nat.blt (Int.toNat x2) (((r62 x7 x8 x9 x10 x11 ((r69 x19 x20 x6 x1).1) ((r69 x19 x20 x6 x1).2) x14 x23 x24).2).length))
  (cond (!c151)
  (u36l1 x0 x1 x2 x3 x4 x5 x6 x7 x8 x9 x10 x11 x12 x13 x14 x15 x16 x17 x18 x19 x20 x21 x22 x23 x24 (ih x0 x1 x2 x3 0 x5 (IntKind.i64.wrap (x6 + 1)) x7 x8 x9 x10 x11 ((r69 x19 x20 x6 x1).1) ((r69 x19 x20 x6 x1).2) x14 x15 x16 x17 x18 x19 x20 x21 x22 x23 x24))
  (cond ((x4 : Int) == 0)
  (cond (decide (((IntKind.i64.wrap (x4 + 1)) : Int) > x3))
  (u36l1 x0 x1 x2 x3 x4 x5 x6 x7 x8 x9 x10 x11 x12 x13 x14 x15 x16 x17 x18 x19 x20 x21 x22 x23 x24 (ih x0 x1 x2 (IntKind.i64.wrap (x4 + 1)) (IntKind.i64.wrap (x4 + 1)) ((r69 x19 x20 x6 x1).1) (IntKind.i64.wrap (x6 + 1)) x7 x8 x9 x10 x11 ((r69 x19 x20 x6 x1).1) ((r69 x19 x20 x6 x1).2) x14 x15 x16 x17 x18 x19 x20 ((r69 x19 x20 x6 x1).1) ((r69 x19 x20 x6 x1).2) x23 x24))
  (u36l1 x0 x1 x2 x3 x4 x5 x6 x7 x8 x9 x10 x11 x12 x13 x14 x15 x16 x17 x18 x19 x20 x21 x22 x23 x24 (ih x0 x1 x2 x3 (IntKind.i64.wrap (x4 + 1)) ((r69 x19 x20 x6 x1).1) (IntKind.i64.wrap (x6 + 1)) x7 x8 x9 x10 x11 ((r69 x19 x20 x6 x1).1) ((r69 x19 x20 x6 x1).2) x14 x15 x16 x17 x18 x19 x20 x21 x22 x23 x24)))
  (cond (decide (((IntKind.i64.wrap (x4 + 1)) : Int) > x3))
  (u36l1 x0 x1 x2 x3 x4 x5 x6 x7 x8 x9 x10 x11 x12 x13 x14 x15 x16 x17 x18 x19 x20 x21 x22 x23 x24 (ih x0 x1 x2 (IntKind.i64.wrap (x4 + 1)) (IntKind.i64.wrap (x4 + 1)) x5 (IntKind.i64.wrap (x6 + 1)) x7 x8 x9 x10 x11 ((r69 x19 x20 x6 x1).1) ((r69 x19 x20 x6 x1).2) x14 x15 x16 x17 x18 x19 x20 x5 ((r69 x19 x20 x6 x1).2) x23 x24))
  (u36l1 x0 x1 x2 x3 x4 x5 x6 x7 x8 x9 x10 x11 x12 x13 x14 x15 x16 x17 x18 x19 x20 x21 x22 x23 x24 (ih x0 x1 x2 x3 (IntKind.i64.wrap (x4 + 1)) x5 (IntKind.i64.wrap (x6 + 1)) x7 x8 x9 x10 x11 ((r69 x19 x20 x6 x1).1) ((r69 x19 x20 x6 x1).2) x14 x15 x16 x17 x18 x19 x20 x21 x22 x23 x24)))))
  none)
  none)
  none)
  (cond (Nat.beq (0 + (Int.toNat x0) * 2) 6)
  (cond (Nat.beq ((r62 x7 x8 x9 x10 x11 x12 ((r69 x19 x20 x6 x1).1) ((r69 x19 x20 x6 x1).2) x23 x24).1) 0)
  (cond ((decide ((0 : Int) ≤ x2)) && (Nat.blt (Int.toNat x2) (((r62 x7 x8 x9 x10 x11 x12 ((r69 x19 x20 x6 x1).1) ((r69 x19 x20 x6 x1).2) x23 x24).2).length)))
  (cond (Nat.blt (Int.toNat x2) (((r62 x7 x8 x9 x10 x11 x12 ((r69 x19 x20 x6 x1).1) ((r69 x19 x20 x6 x1).2) x23 x24).2).length))
  (cond (!c152)
  (u36l1 x0 x1 x2 x3 x4 x5 x6 x7 x8 x9 x10 x11 x12 x13 x14 x15 x16 x17 x18 x19 x20 x21 x22 x23 x24 (ih x0 x1 x2 x3 0 x5 (IntKind.i64.wrap (x6 + 1)) x7 x8 x9 x10 x11 x12 ((r69 x19 x20 x6 x1).1) ((r69 x19 x20 x6 x1).2) x15 x16 x17 x18 x19 x20 x21 x22 x23 x24))
  (cond ((x4 : Int) == 0)
  (cond (decide (((IntKind.i64.wrap (x4 + 1)) : Int) > x3))
  (u36l1 x0 x1 x2 x3 x4 x5 x6 x7 x8 x9 x10 x11 x12 x13 x14 x15 x16 x17 x18 x19 x20 x21 x22 x23 x24 (ih x0 x1 x2 (IntKind.i64.wrap (x4 + 1)) (IntKind.i64.wrap (x4 + 1)) ((r69 x19 x20 x6 x1).1) (IntKind.i64.wrap (x6 + 1)) x7 x8 x9 x10 x11 x12 ((r69 x19 x20 x6 x1).1) ((r69 x19 x20 x6 x1).2) x15 x16 x17 x18 x19 x20 ((r69 x19 x20 x6 x1).1) ((r69 x19 x20 x6 x1).2) x23 x24))
  (u36l1 x0 x1 x2 x3 x4 x5 x6 x7 x8 x9 x10 x11 x12 x13 x14 x15 x16 x17 x18 x19 x20 x21 x22 x23 x24 (ih x0 x1 x2 x3 (IntKind.i64.wrap (x4 + 1)) ((r69 x19 x20 x6 x1).1) (IntKind.i64.wrap (x6 + 1)) x7 x8 x9 x10 x11 x12 ((r69 x19 x20 x6 x1).1) ((r69 x19 x20 x6 x1).2) x15 x16 x17 x18 x19 x20 x21 x22 x23 x24)))
  (cond (decide (((IntKind.i64.wrap (x4 + 1)) : Int) > x3))
  (u36l1 x0 x1 x2 x3 x4 x5 x6 x7 x8 x9 x10 x11 x12 x13 x14 x15 x16 x17 x18 x19 x20 x21 x22 x23 x24 (ih x0 x1 x2 (IntKind.i64.wrap (x4 + 1)) (IntKind.i64.wrap (x4 + 1)) x5 (IntKind.i64.wrap (x6 + 1)) x7 x8 x9 x10 x11 x12 ((r69 x19 x20 x6 x1).1) ((r69 x19 x20 x6 x1).2) x15 x16 x17 x18 x19 x20 x5 ((r69 x19 x20 x6 x1).2) x23 x24))
  (u36l1 x0 x1 x2 x3 x4 x5 x6 x7 x8 x9 x10 x11 x12 x13 x14 x15 x16 x17 x18 x19 x20 x21 x22 x23 x24 (ih x0 x1 x2 x3 (IntKind.i64.wrap (x4 + 1)) x5 (IntKind.i64.wrap (x6 + 1)) x7 x8 x9 x10 x11 x12 ((r69 x19 x20 x6 x1).1) ((r69 x19 x20 x6 x1).2) x15 x16 x17 x18 x19 x20 x21 x22 x23 x24)))))
  none)
  none)
  none)
  none)))))))
  none)
 (a36l1 x0 x1 x2 x3 x4 x5 x6 x7 x8 x9 x10 x11 x12 x13 x14 x15 x16 x17 x18 x19 x20 x21 x22 x23 x24 (0, x3, x7, x8, x9, x10, x11, x12, x13, x14, x21, x22)))
set_option maxRecDepth 100000 in
set_option maxHeartbeats 4000000 in
theorem e36l1 (m : Nat) (x0 x1 x2 x3 x4 : Int) (x5 : Nat) (x6 : Int) (x7 x8 x9 x10 x11 x12 x13 x14 x15 x16 x17 x18 x19 x20 x21 x22 : Nat) (x23 : List ByteArray) (x24 : List (List Int)) : evC Try.prog ext T38 L36_1 200 (loopN Try.f36 1) (loopTail ([2, 5, 6, 7, 10, 12, 15, 16, 19, 20, 21, 22, 23], []) [12, 19, 20] [1, 5] (sumK 117 [2, 5, 6, 7, 10, 12, 15, 16, 19, 20, 21, 22, 23] [12, 19, 20] (q36l1 m))) (frameOf 117 [2, 5, 6, 7, 10, 12, 15, 16, 19, 20, 21, 22, 23] [.int .i64 x0, .int .i64 x1, .pointer (some ⟨0, 0, some 0⟩), .pointer (some ⟨1, 0, some 0⟩), .pointer (some ⟨2, 0, some 0⟩), .pointer (some ⟨3, 0, some 0⟩), .int .i64 x2, .pointer (some ⟨4, 0, some 0⟩), .pointer (some ⟨5, 0, some 0⟩), .int .i64 x3, .int .i64 x4, .float .f32 x5, .int .i64 x6]) ⟨[⟨true, (some (.cells [wsl 6, wsl 7]))⟩, ⟨true, (some (.cells [.float .f32 x7, .float .f32 x8, .float .f32 x9, .float .f32 x10, .float .f32 x11, .float .f32 x12, .float .f32 x13, .float .f32 x14]))⟩, ⟨true, (some (.cells [.float .f32 x15, .float .f32 x16]))⟩, ⟨true, (some (.cells [.float .f32 x17, .float .f32 x18]))⟩, ⟨true, (some (.cells [.float .f32 x19, .float .f32 x20]))⟩, ⟨true, (some (.cells [.float .f32 x21, .float .f32 x22]))⟩, ⟨true, (some (.strs x23))⟩, ⟨true, (some (.tab [.int .i8, .int .i16, .fl .f32] x24))⟩], 8, []⟩ = firstT ([((Nat.beq ((r36l1 (m + 1) x0 x1 x2 x3 x4 x5 x6 x7 x8 x9 x10 x11 x12 x13 x14 x15 x16 x17 x18 x19 x20 x21 x22 x23 x24).1) 0), .exit 2, [.pointer (some ⟨3, 0, some 0⟩), .pointer (some ⟨5, 0, some 0⟩), .int .i64 ((r36l1 (m + 1) x0 x1 x2 x3 x4 x5 x6 x7 x8 x9 x10 x11 x12 x13 x14 x15 x16 x17 x18 x19 x20 x21 x22 x23 x24).2.1)], ⟨[⟨true, (some (.cells [wsl 6, wsl 7]))⟩, ⟨true, (some (.cells [.float .f32 ((r36l1 (m + 1) x0 x1 x2 x3 x4 x5 x6 x7 x8 x9 x10 x11 x12 x13 x14 x15 x16 x17 x18 x19 x20 x21 x22 x23 x24).2.2.1), .float .f32 ((r36l1 (m + 1) x0 x1 x2 x3 x4 x5 x6 x7 x8 x9 x10 x11 x12 x13 x14 x15 x16 x17 x18 x19 x20 x21 x22 x23 x24).2.2.2.1), .float .f32 ((r36l1 (m + 1) x0 x1 x2 x3 x4 x5 x6 x7 x8 x9 x10 x11 x12 x13 x14 x15 x16 x17 x18 x19 x20 x21 x22 x23 x24).2.2.2.2.1), .float .f32 ((r36l1 (m + 1) x0 x1 x2 x3 x4 x5 x6 x7 x8 x9 x10 x11 x12 x13 x14 x15 x16 x17 x18 x19 x20 x21 x22 x23 x24).2.2.2.2.2.1), .float .f32 ((r36l1 (m + 1) x0 x1 x2 x3 x4 x5 x6 x7 x8 x9 x10 x11 x12 x13 x14 x15 x16 x17 x18 x19 x20 x21 x22 x23 x24).2.2.2.2.2.2.1), .float .f32 ((r36l1 (m + 1) x0 x1 x2 x3 x4 x5 x6 x7 x8 x9 x10 x11 x12 x13 x14 x15 x16 x17 x18 x19 x20 x21 x22 x23 x24).2.2.2.2.2.2.2.1), .float .f32 ((r36l1 (m + 1) x0 x1 x2 x3 x4 x5 x6 x7 x8 x9 x10 x11 x12 x13 x14 x15 x16 x17 x18 x19 x20 x21 x22 x23 x24).2.2.2.2.2.2.2.2.1), .float .f32 ((r36l1 (m + 1) x0 x1 x2 x3 x4 x5 x6 x7 x8 x9 x10 x11 x12 x13 x14 x15 x16 x17 x18 x19 x20 x21 x22 x23 x24).2.2.2.2.2.2.2.2.2.1)]))⟩, ⟨true, (some (.cells [.float .f32 x15, .float .f32 x16]))⟩, ⟨true, (some (.cells [.float .f32 x17, .float .f32 x18]))⟩, ⟨true, (some (.cells [.float .f32 x19, .float .f32 x20]))⟩, ⟨true, (some (.cells [.float .f32 ((r36l1 (m + 1) x0 x1 x2 x3 x4 x5 x6 x7 x8 x9 x10 x11 x12 x13 x14 x15 x16 x17 x18 x19 x20 x21 x22 x23 x24).2.2.2.2.2.2.2.2.2.2.1), .float .f32 ((r36l1 (m + 1) x0 x1 x2 x3 x4 x5 x6 x7 x8 x9 x10 x11 x12 x13 x14 x15 x16 x17 x18 x19 x20 x21 x22 x23 x24).2.2.2.2.2.2.2.2.2.2.2)]))⟩, ⟨true, (some (.strs x23))⟩, ⟨true, (some (.tab [.int .i8, .int .i16, .fl .f32] x24))⟩], 8, [1, 5]⟩)].map fun (b, x) => (b, (x.1, frameOf 117 [12, 19, 20] x.2.1, x.2.2))) :=
 (show evC Try.prog ext T38 L36_1 200 (loopN Try.f36 1) (loopTail ([2, 5, 6, 7, 10, 12, 15, 16, 19, 20, 21, 22, 23], []) [12, 19, 20] [1, 5] (sumK 117 [2, 5, 6, 7, 10, 12, 15, 16, 19, 20, 21, 22, 23] [12, 19, 20] (q36l1 m))) (frameOf 117 [2, 5, 6, 7, 10, 12, 15, 16, 19, 20, 21, 22, 23] [.int .i64 x0, .int .i64 x1, .pointer (some ⟨0, 0, some 0⟩), .pointer (some ⟨1, 0, some 0⟩), .pointer (some ⟨2, 0, some 0⟩), .pointer (some ⟨3, 0, some 0⟩), .int .i64 x2, .pointer (some ⟨4, 0, some 0⟩), .pointer (some ⟨5, 0, some 0⟩), .int .i64 x3, .int .i64 x4, .float .f32 x5, .int .i64 x6]) ⟨[⟨true, (some (.cells [wsl 6, wsl 7]))⟩, ⟨true, (some (.cells [.float .f32 x7, .float .f32 x8, .float .f32 x9, .float .f32 x10, .float .f32 x11, .float .f32 x12, .float .f32 x13, .float .f32 x14]))⟩, ⟨true, (some (.cells [.float .f32 x15, .float .f32 x16]))⟩, ⟨true, (some (.cells [.float .f32 x17, .float .f32 x18]))⟩, ⟨true, (some (.cells [.float .f32 x19, .float .f32 x20]))⟩, ⟨true, (some (.cells [.float .f32 x21, .float .f32 x22]))⟩, ⟨true, (some (.strs x23))⟩, ⟨true, (some (.tab [.int .i8, .int .i16, .fl .f32] x24))⟩], 8, []⟩ = w36l1 (r36l1 m) x0 x1 x2 x3 x4 x5 x6 x7 x8 x9 x10 x11 x12 x13 x14 x15 x16 x17 x18 x19 x20 x21 x22 x23 x24 from by kernel_rfl).trans
 (show w36l1 (r36l1 m) x0 x1 x2 x3 x4 x5 x6 x7 x8 x9 x10 x11 x12 x13 x14 x15 x16 x17 x18 x19 x20 x21 x22 x23 x24 = a36l1 x0 x1 x2 x3 x4 x5 x6 x7 x8 x9 x10 x11 x12 x13 x14 x15 x16 x17 x18 x19 x20 x21 x22 x23 x24 (r36l1 (m + 1) x0 x1 x2 x3 x4 x5 x6 x7 x8 x9 x10 x11 x12 x13 x14 x15 x16 x17 x18 x19 x20 x21 x22 x23 x24) from by unfold w36l1; show _ = a36l1 x0 x1 x2 x3 x4 x5 x6 x7 x8 x9 x10 x11 x12 x13 x14 x15 x16 x17 x18 x19 x20 x21 x22 x23 x24 (b36l1 (r36l1 m) x0 x1 x2 x3 x4 x5 x6 x7 x8 x9 x10 x11 x12 x13 x14 x15 x16 x17 x18 x19 x20 x21 x22 x23 x24); unfold b36l1; exact (cond_both (a36l1 x0 x1 x2 x3 x4 x5 x6 x7 x8 x9 x10 x11 x12 x13 x14 x15 x16 x17 x18 x19 x20 x21 x22 x23 x24) _ (fun h0 => (cond_both (a36l1 x0 x1 x2 x3 x4 x5 x6 x7 x8 x9 x10 x11 x12 x13 x14 x15 x16 x17 x18 x19 x20 x21 x22 x23 x24) _ (fun h1 => (cond_both (a36l1 x0 x1 x2 x3 x4 x5 x6 x7 x8 x9 x10 x11 x12 x13 x14 x15 x16 x17 x18 x19 x20 x21 x22 x23 x24) _ (fun h2 => (cond_both (a36l1 x0 x1 x2 x3 x4 x5 x6 x7 x8 x9 x10 x11 x12 x13 x14 x15 x16 x17 x18 x19 x20 x21 x22 x23 x24) _ (fun h3 => (cond_both (a36l1 x0 x1 x2 x3 x4 x5 x6 x7 x8 x9 x10 x11 x12 x13 x14 x15 x16 x17 x18 x19 x20 x21 x22 x23 x24) _ (fun h4 => (cond_t (ev_and2 h4) (cond_app (a36l1 x0 x1 x2 x3 x4 x5 x6 x7 x8 x9 x10 x11 x12 x13 x14 x15 x16 x17 x18 x19 x20 x21 x22 x23 x24) _ (v36l1 x0 x1 x2 x3 x4 x5 x6 x7 x8 x9 x10 x11 x12 x13 x14 x15 x16 x17 x18 x19 x20 x21 x22 x23 x24 ((r36l1 m) x0 x1 x2 x3 0 x5 (IntKind.i64.wrap (x6 + 1)) ((r69 x19 x20 x6 x1).1) ((r69 x19 x20 x6 x1).2) x9 x10 x11 x12 x13 x14 x15 x16 x17 x18 x19 x20 x21 x22 x23 x24)) (cond_app (a36l1 x0 x1 x2 x3 x4 x5 x6 x7 x8 x9 x10 x11 x12 x13 x14 x15 x16 x17 x18 x19 x20 x21 x22 x23 x24) _ (cond_app (a36l1 x0 x1 x2 x3 x4 x5 x6 x7 x8 x9 x10 x11 x12 x13 x14 x15 x16 x17 x18 x19 x20 x21 x22 x23 x24) _ (v36l1 x0 x1 x2 x3 x4 x5 x6 x7 x8 x9 x10 x11 x12 x13 x14 x15 x16 x17 x18 x19 x20 x21 x22 x23 x24 ((r36l1 m) x0 x1 x2 (IntKind.i64.wrap (x4 + 1)) (IntKind.i64.wrap (x4 + 1)) ((r69 x19 x20 x6 x1).1) (IntKind.i64.wrap (x6 + 1)) ((r69 x19 x20 x6 x1).1) ((r69 x19 x20 x6 x1).2) x9 x10 x11 x12 x13 x14 x15 x16 x17 x18 x19 x20 ((r69 x19 x20 x6 x1).1) ((r69 x19 x20 x6 x1).2) x23 x24)) (v36l1 x0 x1 x2 x3 x4 x5 x6 x7 x8 x9 x10 x11 x12 x13 x14 x15 x16 x17 x18 x19 x20 x21 x22 x23 x24 ((r36l1 m) x0 x1 x2 x3 (IntKind.i64.wrap (x4 + 1)) ((r69 x19 x20 x6 x1).1) (IntKind.i64.wrap (x6 + 1)) ((r69 x19 x20 x6 x1).1) ((r69 x19 x20 x6 x1).2) x9 x10 x11 x12 x13 x14 x15 x16 x17 x18 x19 x20 x21 x22 x23 x24))) (cond_app (a36l1 x0 x1 x2 x3 x4 x5 x6 x7 x8 x9 x10 x11 x12 x13 x14 x15 x16 x17 x18 x19 x20 x21 x22 x23 x24) _ (v36l1 x0 x1 x2 x3 x4 x5 x6 x7 x8 x9 x10 x11 x12 x13 x14 x15 x16 x17 x18 x19 x20 x21 x22 x23 x24 ((r36l1 m) x0 x1 x2 (IntKind.i64.wrap (x4 + 1)) (IntKind.i64.wrap (x4 + 1)) x5 (IntKind.i64.wrap (x6 + 1)) ((r69 x19 x20 x6 x1).1) ((r69 x19 x20 x6 x1).2) x9 x10 x11 x12 x13 x14 x15 x16 x17 x18 x19 x20 x5 ((r69 x19 x20 x6 x1).2) x23 x24)) (v36l1 x0 x1 x2 x3 x4 x5 x6 x7 x8 x9 x10 x11 x12 x13 x14 x15 x16 x17 x18 x19 x20 x21 x22 x23 x24 ((r36l1 m) x0 x1 x2 x3 (IntKind.i64.wrap (x4 + 1)) x5 (IntKind.i64.wrap (x6 + 1)) ((r69 x19 x20 x6 x1).1) ((r69 x19 x20 x6 x1).2) x9 x10 x11 x12 x13 x14 x15 x16 x17 x18 x19 x20 x21 x22 x23 x24))))))) (fun h4 => rfl))) (fun h3 => rfl))) (fun h2 => (cond_both (a36l1 x0 x1 x2 x3 x4 x5 x6 x7 x8 x9 x10 x11 x12 x13 x14 x15 x16 x17 x18 x19 x20 x21 x22 x23 x24) _ (fun h3 => (cond_both (a36l1 x0 x1 x2 x3 x4 x5 x6 x7 x8 x9 x10 x11 x12 x13 x14 x15 x16 x17 x18 x19 x20 x21 x22 x23 x24) _ (fun h4 => (cond_both (a36l1 x0 x1 x2 x3 x4 x5 x6 x7 x8 x9 x10 x11 x12 x13 x14 x15 x16 x17 x18 x19 x20 x21 x22 x23 x24) _ (fun h5 => (cond_t (ev_and2 h5) (cond_app (a36l1 x0 x1 x2 x3 x4 x5 x6 x7 x8 x9 x10 x11 x12 x13 x14 x15 x16 x17 x18 x19 x20 x21 x22 x23 x24) _ (v36l1 x0 x1 x2 x3 x4 x5 x6 x7 x8 x9 x10 x11 x12 x13 x14 x15 x16 x17 x18 x19 x20 x21 x22 x23 x24 ((r36l1 m) x0 x1 x2 x3 0 x5 (IntKind.i64.wrap (x6 + 1)) x7 ((r69 x19 x20 x6 x1).1) ((r69 x19 x20 x6 x1).2) x10 x11 x12 x13 x14 x15 x16 x17 x18 x19 x20 x21 x22 x23 x24)) (cond_app (a36l1 x0 x1 x2 x3 x4 x5 x6 x7 x8 x9 x10 x11 x12 x13 x14 x15 x16 x17 x18 x19 x20 x21 x22 x23 x24) _ (cond_app (a36l1 x0 x1 x2 x3 x4 x5 x6 x7 x8 x9 x10 x11 x12 x13 x14 x15 x16 x17 x18 x19 x20 x21 x22 x23 x24) _ (v36l1 x0 x1 x2 x3 x4 x5 x6 x7 x8 x9 x10 x11 x12 x13 x14 x15 x16 x17 x18 x19 x20 x21 x22 x23 x24 ((r36l1 m) x0 x1 x2 (IntKind.i64.wrap (x4 + 1)) (IntKind.i64.wrap (x4 + 1)) ((r69 x19 x20 x6 x1).1) (IntKind.i64.wrap (x6 + 1)) x7 ((r69 x19 x20 x6 x1).1) ((r69 x19 x20 x6 x1).2) x10 x11 x12 x13 x14 x15 x16 x17 x18 x19 x20 ((r69 x19 x20 x6 x1).1) ((r69 x19 x20 x6 x1).2) x23 x24)) (v36l1 x0 x1 x2 x3 x4 x5 x6 x7 x8 x9 x10 x11 x12 x13 x14 x15 x16 x17 x18 x19 x20 x21 x22 x23 x24 ((r36l1 m) x0 x1 x2 x3 (IntKind.i64.wrap (x4 + 1)) ((r69 x19 x20 x6 x1).1) (IntKind.i64.wrap (x6 + 1)) x7 ((r69 x19 x20 x6 x1).1) ((r69 x19 x20 x6 x1).2) x10 x11 x12 x13 x14 x15 x16 x17 x18 x19 x20 x21 x22 x23 x24))) (cond_app (a36l1 x0 x1 x2 x3 x4 x5 x6 x7 x8 x9 x10 x11 x12 x13 x14 x15 x16 x17 x18 x19 x20 x21 x22 x23 x24) _ (v36l1 x0 x1 x2 x3 x4 x5 x6 x7 x8 x9 x10 x11 x12 x13 x14 x15 x16 x17 x18 x19 x20 x21 x22 x23 x24 ((r36l1 m) x0 x1 x2 (IntKind.i64.wrap (x4 + 1)) (IntKind.i64.wrap (x4 + 1)) x5 (IntKind.i64.wrap (x6 + 1)) x7 ((r69 x19 x20 x6 x1).1) ((r69 x19 x20 x6 x1).2) x10 x11 x12 x13 x14 x15 x16 x17 x18 x19 x20 x5 ((r69 x19 x20 x6 x1).2) x23 x24)) (v36l1 x0 x1 x2 x3 x4 x5 x6 x7 x8 x9 x10 x11 x12 x13 x14 x15 x16 x17 x18 x19 x20 x21 x22 x23 x24 ((r36l1 m) x0 x1 x2 x3 (IntKind.i64.wrap (x4 + 1)) x5 (IntKind.i64.wrap (x6 + 1)) x7 ((r69 x19 x20 x6 x1).1) ((r69 x19 x20 x6 x1).2) x10 x11 x12 x13 x14 x15 x16 x17 x18 x19 x20 x21 x22 x23 x24))))))) (fun h5 => rfl))) (fun h4 => rfl))) (fun h3 => (cond_both (a36l1 x0 x1 x2 x3 x4 x5 x6 x7 x8 x9 x10 x11 x12 x13 x14 x15 x16 x17 x18 x19 x20 x21 x22 x23 x24) _ (fun h4 => (cond_both (a36l1 x0 x1 x2 x3 x4 x5 x6 x7 x8 x9 x10 x11 x12 x13 x14 x15 x16 x17 x18 x19 x20 x21 x22 x23 x24) _ (fun h5 => (cond_both (a36l1 x0 x1 x2 x3 x4 x5 x6 x7 x8 x9 x10 x11 x12 x13 x14 x15 x16 x17 x18 x19 x20 x21 x22 x23 x24) _ (fun h6 => (cond_t (ev_and2 h6) (cond_app (a36l1 x0 x1 x2 x3 x4 x5 x6 x7 x8 x9 x10 x11 x12 x13 x14 x15 x16 x17 x18 x19 x20 x21 x22 x23 x24) _ (v36l1 x0 x1 x2 x3 x4 x5 x6 x7 x8 x9 x10 x11 x12 x13 x14 x15 x16 x17 x18 x19 x20 x21 x22 x23 x24 ((r36l1 m) x0 x1 x2 x3 0 x5 (IntKind.i64.wrap (x6 + 1)) x7 x8 ((r69 x19 x20 x6 x1).1) ((r69 x19 x20 x6 x1).2) x11 x12 x13 x14 x15 x16 x17 x18 x19 x20 x21 x22 x23 x24)) (cond_app (a36l1 x0 x1 x2 x3 x4 x5 x6 x7 x8 x9 x10 x11 x12 x13 x14 x15 x16 x17 x18 x19 x20 x21 x22 x23 x24) _ (cond_app (a36l1 x0 x1 x2 x3 x4 x5 x6 x7 x8 x9 x10 x11 x12 x13 x14 x15 x16 x17 x18 x19 x20 x21 x22 x23 x24) _ (v36l1 x0 x1 x2 x3 x4 x5 x6 x7 x8 x9 x10 x11 x12 x13 x14 x15 x16 x17 x18 x19 x20 x21 x22 x23 x24 ((r36l1 m) x0 x1 x2 (IntKind.i64.wrap (x4 + 1)) (IntKind.i64.wrap (x4 + 1)) ((r69 x19 x20 x6 x1).1) (IntKind.i64.wrap (x6 + 1)) x7 x8 ((r69 x19 x20 x6 x1).1) ((r69 x19 x20 x6 x1).2) x11 x12 x13 x14 x15 x16 x17 x18 x19 x20 ((r69 x19 x20 x6 x1).1) ((r69 x19 x20 x6 x1).2) x23 x24)) (v36l1 x0 x1 x2 x3 x4 x5 x6 x7 x8 x9 x10 x11 x12 x13 x14 x15 x16 x17 x18 x19 x20 x21 x22 x23 x24 ((r36l1 m) x0 x1 x2 x3 (IntKind.i64.wrap (x4 + 1)) ((r69 x19 x20 x6 x1).1) (IntKind.i64.wrap (x6 + 1)) x7 x8 ((r69 x19 x20 x6 x1).1) ((r69 x19 x20 x6 x1).2) x11 x12 x13 x14 x15 x16 x17 x18 x19 x20 x21 x22 x23 x24))) (cond_app (a36l1 x0 x1 x2 x3 x4 x5 x6 x7 x8 x9 x10 x11 x12 x13 x14 x15 x16 x17 x18 x19 x20 x21 x22 x23 x24) _ (v36l1 x0 x1 x2 x3 x4 x5 x6 x7 x8 x9 x10 x11 x12 x13 x14 x15 x16 x17 x18 x19 x20 x21 x22 x23 x24 ((r36l1 m) x0 x1 x2 (IntKind.i64.wrap (x4 + 1)) (IntKind.i64.wrap (x4 + 1)) x5 (IntKind.i64.wrap (x6 + 1)) x7 x8 ((r69 x19 x20 x6 x1).1) ((r69 x19 x20 x6 x1).2) x11 x12 x13 x14 x15 x16 x17 x18 x19 x20 x5 ((r69 x19 x20 x6 x1).2) x23 x24)) (v36l1 x0 x1 x2 x3 x4 x5 x6 x7 x8 x9 x10 x11 x12 x13 x14 x15 x16 x17 x18 x19 x20 x21 x22 x23 x24 ((r36l1 m) x0 x1 x2 x3 (IntKind.i64.wrap (x4 + 1)) x5 (IntKind.i64.wrap (x6 + 1)) x7 x8 ((r69 x19 x20 x6 x1).1) ((r69 x19 x20 x6 x1).2) x11 x12 x13 x14 x15 x16 x17 x18 x19 x20 x21 x22 x23 x24))))))) (fun h6 => rfl))) (fun h5 => rfl))) (fun h4 => (cond_both (a36l1 x0 x1 x2 x3 x4 x5 x6 x7 x8 x9 x10 x11 x12 x13 x14 x15 x16 x17 x18 x19 x20 x21 x22 x23 x24) _ (fun h5 => (cond_both (a36l1 x0 x1 x2 x3 x4 x5 x6 x7 x8 x9 x10 x11 x12 x13 x14 x15 x16 x17 x18 x19 x20 x21 x22 x23 x24) _ (fun h6 => (cond_both (a36l1 x0 x1 x2 x3 x4 x5 x6 x7 x8 x9 x10 x11 x12 x13 x14 x15 x16 x17 x18 x19 x20 x21 x22 x23 x24) _ (fun h7 => (cond_t (ev_and2 h7) (cond_app (a36l1 x0 x1 x2 x3 x4 x5 x6 x7 x8 x9 x10 x11 x12 x13 x14 x15 x16 x17 x18 x19 x20 x21 x22 x23 x24) _ (v36l1 x0 x1 x2 x3 x4 x5 x6 x7 x8 x9 x10 x11 x12 x13 x14 x15 x16 x17 x18 x19 x20 x21 x22 x23 x24 ((r36l1 m) x0 x1 x2 x3 0 x5 (IntKind.i64.wrap (x6 + 1)) x7 x8 x9 ((r69 x19 x20 x6 x1).1) ((r69 x19 x20 x6 x1).2) x12 x13 x14 x15 x16 x17 x18 x19 x20 x21 x22 x23 x24)) (cond_app (a36l1 x0 x1 x2 x3 x4 x5 x6 x7 x8 x9 x10 x11 x12 x13 x14 x15 x16 x17 x18 x19 x20 x21 x22 x23 x24) _ (cond_app (a36l1 x0 x1 x2 x3 x4 x5 x6 x7 x8 x9 x10 x11 x12 x13 x14 x15 x16 x17 x18 x19 x20 x21 x22 x23 x24) _ (v36l1 x0 x1 x2 x3 x4 x5 x6 x7 x8 x9 x10 x11 x12 x13 x14 x15 x16 x17 x18 x19 x20 x21 x22 x23 x24 ((r36l1 m) x0 x1 x2 (IntKind.i64.wrap (x4 + 1)) (IntKind.i64.wrap (x4 + 1)) ((r69 x19 x20 x6 x1).1) (IntKind.i64.wrap (x6 + 1)) x7 x8 x9 ((r69 x19 x20 x6 x1).1) ((r69 x19 x20 x6 x1).2) x12 x13 x14 x15 x16 x17 x18 x19 x20 ((r69 x19 x20 x6 x1).1) ((r69 x19 x20 x6 x1).2) x23 x24)) (v36l1 x0 x1 x2 x3 x4 x5 x6 x7 x8 x9 x10 x11 x12 x13 x14 x15 x16 x17 x18 x19 x20 x21 x22 x23 x24 ((r36l1 m) x0 x1 x2 x3 (IntKind.i64.wrap (x4 + 1)) ((r69 x19 x20 x6 x1).1) (IntKind.i64.wrap (x6 + 1)) x7 x8 x9 ((r69 x19 x20 x6 x1).1) ((r69 x19 x20 x6 x1).2) x12 x13 x14 x15 x16 x17 x18 x19 x20 x21 x22 x23 x24))) (cond_app (a36l1 x0 x1 x2 x3 x4 x5 x6 x7 x8 x9 x10 x11 x12 x13 x14 x15 x16 x17 x18 x19 x20 x21 x22 x23 x24) _ (v36l1 x0 x1 x2 x3 x4 x5 x6 x7 x8 x9 x10 x11 x12 x13 x14 x15 x16 x17 x18 x19 x20 x21 x22 x23 x24 ((r36l1 m) x0 x1 x2 (IntKind.i64.wrap (x4 + 1)) (IntKind.i64.wrap (x4 + 1)) x5 (IntKind.i64.wrap (x6 + 1)) x7 x8 x9 ((r69 x19 x20 x6 x1).1) ((r69 x19 x20 x6 x1).2) x12 x13 x14 x15 x16 x17 x18 x19 x20 x5 ((r69 x19 x20 x6 x1).2) x23 x24)) (v36l1 x0 x1 x2 x3 x4 x5 x6 x7 x8 x9 x10 x11 x12 x13 x14 x15 x16 x17 x18 x19 x20 x21 x22 x23 x24 ((r36l1 m) x0 x1 x2 x3 (IntKind.i64.wrap (x4 + 1)) x5 (IntKind.i64.wrap (x6 + 1)) x7 x8 x9 ((r69 x19 x20 x6 x1).1) ((r69 x19 x20 x6 x1).2) x12 x13 x14 x15 x16 x17 x18 x19 x20 x21 x22 x23 x24))))))) (fun h7 => rfl))) (fun h6 => rfl))) (fun h5 => (cond_both (a36l1 x0 x1 x2 x3 x4 x5 x6 x7 x8 x9 x10 x11 x12 x13 x14 x15 x16 x17 x18 x19 x20 x21 x22 x23 x24) _ (fun h6 => (cond_both (a36l1 x0 x1 x2 x3 x4 x5 x6 x7 x8 x9 x10 x11 x12 x13 x14 x15 x16 x17 x18 x19 x20 x21 x22 x23 x24) _ (fun h7 => (cond_both (a36l1 x0 x1 x2 x3 x4 x5 x6 x7 x8 x9 x10 x11 x12 x13 x14 x15 x16 x17 x18 x19 x20 x21 x22 x23 x24) _ (fun h8 => (cond_t (ev_and2 h8) (cond_app (a36l1 x0 x1 x2 x3 x4 x5 x6 x7 x8 x9 x10 x11 x12 x13 x14 x15 x16 x17 x18 x19 x20 x21 x22 x23 x24) _ (v36l1 x0 x1 x2 x3 x4 x5 x6 x7 x8 x9 x10 x11 x12 x13 x14 x15 x16 x17 x18 x19 x20 x21 x22 x23 x24 ((r36l1 m) x0 x1 x2 x3 0 x5 (IntKind.i64.wrap (x6 + 1)) x7 x8 x9 x10 ((r69 x19 x20 x6 x1).1) ((r69 x19 x20 x6 x1).2) x13 x14 x15 x16 x17 x18 x19 x20 x21 x22 x23 x24)) (cond_app (a36l1 x0 x1 x2 x3 x4 x5 x6 x7 x8 x9 x10 x11 x12 x13 x14 x15 x16 x17 x18 x19 x20 x21 x22 x23 x24) _ (cond_app (a36l1 x0 x1 x2 x3 x4 x5 x6 x7 x8 x9 x10 x11 x12 x13 x14 x15 x16 x17 x18 x19 x20 x21 x22 x23 x24) _ (v36l1 x0 x1 x2 x3 x4 x5 x6 x7 x8 x9 x10 x11 x12 x13 x14 x15 x16 x17 x18 x19 x20 x21 x22 x23 x24 ((r36l1 m) x0 x1 x2 (IntKind.i64.wrap (x4 + 1)) (IntKind.i64.wrap (x4 + 1)) ((r69 x19 x20 x6 x1).1) (IntKind.i64.wrap (x6 + 1)) x7 x8 x9 x10 ((r69 x19 x20 x6 x1).1) ((r69 x19 x20 x6 x1).2) x13 x14 x15 x16 x17 x18 x19 x20 ((r69 x19 x20 x6 x1).1) ((r69 x19 x20 x6 x1).2) x23 x24)) (v36l1 x0 x1 x2 x3 x4 x5 x6 x7 x8 x9 x10 x11 x12 x13 x14 x15 x16 x17 x18 x19 x20 x21 x22 x23 x24 ((r36l1 m) x0 x1 x2 x3 (IntKind.i64.wrap (x4 + 1)) ((r69 x19 x20 x6 x1).1) (IntKind.i64.wrap (x6 + 1)) x7 x8 x9 x10 ((r69 x19 x20 x6 x1).1) ((r69 x19 x20 x6 x1).2) x13 x14 x15 x16 x17 x18 x19 x20 x21 x22 x23 x24))) (cond_app (a36l1 x0 x1 x2 x3 x4 x5 x6 x7 x8 x9 x10 x11 x12 x13 x14 x15 x16 x17 x18 x19 x20 x21 x22 x23 x24) _ (v36l1 x0 x1 x2 x3 x4 x5 x6 x7 x8 x9 x10 x11 x12 x13 x14 x15 x16 x17 x18 x19 x20 x21 x22 x23 x24 ((r36l1 m) x0 x1 x2 (IntKind.i64.wrap (x4 + 1)) (IntKind.i64.wrap (x4 + 1)) x5 (IntKind.i64.wrap (x6 + 1)) x7 x8 x9 x10 ((r69 x19 x20 x6 x1).1) ((r69 x19 x20 x6 x1).2) x13 x14 x15 x16 x17 x18 x19 x20 x5 ((r69 x19 x20 x6 x1).2) x23 x24)) (v36l1 x0 x1 x2 x3 x4 x5 x6 x7 x8 x9 x10 x11 x12 x13 x14 x15 x16 x17 x18 x19 x20 x21 x22 x23 x24 ((r36l1 m) x0 x1 x2 x3 (IntKind.i64.wrap (x4 + 1)) x5 (IntKind.i64.wrap (x6 + 1)) x7 x8 x9 x10 ((r69 x19 x20 x6 x1).1) ((r69 x19 x20 x6 x1).2) x13 x14 x15 x16 x17 x18 x19 x20 x21 x22 x23 x24))))))) (fun h8 => rfl))) (fun h7 => rfl))) (fun h6 => (cond_both (a36l1 x0 x1 x2 x3 x4 x5 x6 x7 x8 x9 x10 x11 x12 x13 x14 x15 x16 x17 x18 x19 x20 x21 x22 x23 x24) _ (fun h7 => (cond_both (a36l1 x0 x1 x2 x3 x4 x5 x6 x7 x8 x9 x10 x11 x12 x13 x14 x15 x16 x17 x18 x19 x20 x21 x22 x23 x24) _ (fun h8 => (cond_both (a36l1 x0 x1 x2 x3 x4 x5 x6 x7 x8 x9 x10 x11 x12 x13 x14 x15 x16 x17 x18 x19 x20 x21 x22 x23 x24) _ (fun h9 => (cond_t (ev_and2 h9) (cond_app (a36l1 x0 x1 x2 x3 x4 x5 x6 x7 x8 x9 x10 x11 x12 x13 x14 x15 x16 x17 x18 x19 x20 x21 x22 x23 x24) _ (v36l1 x0 x1 x2 x3 x4 x5 x6 x7 x8 x9 x10 x11 x12 x13 x14 x15 x16 x17 x18 x19 x20 x21 x22 x23 x24 ((r36l1 m) x0 x1 x2 x3 0 x5 (IntKind.i64.wrap (x6 + 1)) x7 x8 x9 x10 x11 ((r69 x19 x20 x6 x1).1) ((r69 x19 x20 x6 x1).2) x14 x15 x16 x17 x18 x19 x20 x21 x22 x23 x24)) (cond_app (a36l1 x0 x1 x2 x3 x4 x5 x6 x7 x8 x9 x10 x11 x12 x13 x14 x15 x16 x17 x18 x19 x20 x21 x22 x23 x24) _ (cond_app (a36l1 x0 x1 x2 x3 x4 x5 x6 x7 x8 x9 x10 x11 x12 x13 x14 x15 x16 x17 x18 x19 x20 x21 x22 x23 x24) _ (v36l1 x0 x1 x2 x3 x4 x5 x6 x7 x8 x9 x10 x11 x12 x13 x14 x15 x16 x17 x18 x19 x20 x21 x22 x23 x24 ((r36l1 m) x0 x1 x2 (IntKind.i64.wrap (x4 + 1)) (IntKind.i64.wrap (x4 + 1)) ((r69 x19 x20 x6 x1).1) (IntKind.i64.wrap (x6 + 1)) x7 x8 x9 x10 x11 ((r69 x19 x20 x6 x1).1) ((r69 x19 x20 x6 x1).2) x14 x15 x16 x17 x18 x19 x20 ((r69 x19 x20 x6 x1).1) ((r69 x19 x20 x6 x1).2) x23 x24)) (v36l1 x0 x1 x2 x3 x4 x5 x6 x7 x8 x9 x10 x11 x12 x13 x14 x15 x16 x17 x18 x19 x20 x21 x22 x23 x24 ((r36l1 m) x0 x1 x2 x3 (IntKind.i64.wrap (x4 + 1)) ((r69 x19 x20 x6 x1).1) (IntKind.i64.wrap (x6 + 1)) x7 x8 x9 x10 x11 ((r69 x19 x20 x6 x1).1) ((r69 x19 x20 x6 x1).2) x14 x15 x16 x17 x18 x19 x20 x21 x22 x23 x24))) (cond_app (a36l1 x0 x1 x2 x3 x4 x5 x6 x7 x8 x9 x10 x11 x12 x13 x14 x15 x16 x17 x18 x19 x20 x21 x22 x23 x24) _ (v36l1 x0 x1 x2 x3 x4 x5 x6 x7 x8 x9 x10 x11 x12 x13 x14 x15 x16 x17 x18 x19 x20 x21 x22 x23 x24 ((r36l1 m) x0 x1 x2 (IntKind.i64.wrap (x4 + 1)) (IntKind.i64.wrap (x4 + 1)) x5 (IntKind.i64.wrap (x6 + 1)) x7 x8 x9 x10 x11 ((r69 x19 x20 x6 x1).1) ((r69 x19 x20 x6 x1).2) x14 x15 x16 x17 x18 x19 x20 x5 ((r69 x19 x20 x6 x1).2) x23 x24)) (v36l1 x0 x1 x2 x3 x4 x5 x6 x7 x8 x9 x10 x11 x12 x13 x14 x15 x16 x17 x18 x19 x20 x21 x22 x23 x24 ((r36l1 m) x0 x1 x2 x3 (IntKind.i64.wrap (x4 + 1)) x5 (IntKind.i64.wrap (x6 + 1)) x7 x8 x9 x10 x11 ((r69 x19 x20 x6 x1).1) ((r69 x19 x20 x6 x1).2) x14 x15 x16 x17 x18 x19 x20 x21 x22 x23 x24))))))) (fun h9 => rfl))) (fun h8 => rfl))) (fun h7 => (cond_both (a36l1 x0 x1 x2 x3 x4 x5 x6 x7 x8 x9 x10 x11 x12 x13 x14 x15 x16 x17 x18 x19 x20 x21 x22 x23 x24) _ (fun h8 => (cond_both (a36l1 x0 x1 x2 x3 x4 x5 x6 x7 x8 x9 x10 x11 x12 x13 x14 x15 x16 x17 x18 x19 x20 x21 x22 x23 x24) _ (fun h9 => (cond_both (a36l1 x0 x1 x2 x3 x4 x5 x6 x7 x8 x9 x10 x11 x12 x13 x14 x15 x16 x17 x18 x19 x20 x21 x22 x23 x24) _ (fun h10 => (cond_t (ev_and2 h10) (cond_app (a36l1 x0 x1 x2 x3 x4 x5 x6 x7 x8 x9 x10 x11 x12 x13 x14 x15 x16 x17 x18 x19 x20 x21 x22 x23 x24) _ (v36l1 x0 x1 x2 x3 x4 x5 x6 x7 x8 x9 x10 x11 x12 x13 x14 x15 x16 x17 x18 x19 x20 x21 x22 x23 x24 ((r36l1 m) x0 x1 x2 x3 0 x5 (IntKind.i64.wrap (x6 + 1)) x7 x8 x9 x10 x11 x12 ((r69 x19 x20 x6 x1).1) ((r69 x19 x20 x6 x1).2) x15 x16 x17 x18 x19 x20 x21 x22 x23 x24)) (cond_app (a36l1 x0 x1 x2 x3 x4 x5 x6 x7 x8 x9 x10 x11 x12 x13 x14 x15 x16 x17 x18 x19 x20 x21 x22 x23 x24) _ (cond_app (a36l1 x0 x1 x2 x3 x4 x5 x6 x7 x8 x9 x10 x11 x12 x13 x14 x15 x16 x17 x18 x19 x20 x21 x22 x23 x24) _ (v36l1 x0 x1 x2 x3 x4 x5 x6 x7 x8 x9 x10 x11 x12 x13 x14 x15 x16 x17 x18 x19 x20 x21 x22 x23 x24 ((r36l1 m) x0 x1 x2 (IntKind.i64.wrap (x4 + 1)) (IntKind.i64.wrap (x4 + 1)) ((r69 x19 x20 x6 x1).1) (IntKind.i64.wrap (x6 + 1)) x7 x8 x9 x10 x11 x12 ((r69 x19 x20 x6 x1).1) ((r69 x19 x20 x6 x1).2) x15 x16 x17 x18 x19 x20 ((r69 x19 x20 x6 x1).1) ((r69 x19 x20 x6 x1).2) x23 x24)) (v36l1 x0 x1 x2 x3 x4 x5 x6 x7 x8 x9 x10 x11 x12 x13 x14 x15 x16 x17 x18 x19 x20 x21 x22 x23 x24 ((r36l1 m) x0 x1 x2 x3 (IntKind.i64.wrap (x4 + 1)) ((r69 x19 x20 x6 x1).1) (IntKind.i64.wrap (x6 + 1)) x7 x8 x9 x10 x11 x12 ((r69 x19 x20 x6 x1).1) ((r69 x19 x20 x6 x1).2) x15 x16 x17 x18 x19 x20 x21 x22 x23 x24))) (cond_app (a36l1 x0 x1 x2 x3 x4 x5 x6 x7 x8 x9 x10 x11 x12 x13 x14 x15 x16 x17 x18 x19 x20 x21 x22 x23 x24) _ (v36l1 x0 x1 x2 x3 x4 x5 x6 x7 x8 x9 x10 x11 x12 x13 x14 x15 x16 x17 x18 x19 x20 x21 x22 x23 x24 ((r36l1 m) x0 x1 x2 (IntKind.i64.wrap (x4 + 1)) (IntKind.i64.wrap (x4 + 1)) x5 (IntKind.i64.wrap (x6 + 1)) x7 x8 x9 x10 x11 x12 ((r69 x19 x20 x6 x1).1) ((r69 x19 x20 x6 x1).2) x15 x16 x17 x18 x19 x20 x5 ((r69 x19 x20 x6 x1).2) x23 x24)) (v36l1 x0 x1 x2 x3 x4 x5 x6 x7 x8 x9 x10 x11 x12 x13 x14 x15 x16 x17 x18 x19 x20 x21 x22 x23 x24 ((r36l1 m) x0 x1 x2 x3 (IntKind.i64.wrap (x4 + 1)) x5 (IntKind.i64.wrap (x6 + 1)) x7 x8 x9 x10 x11 x12 ((r69 x19 x20 x6 x1).1) ((r69 x19 x20 x6 x1).2) x15 x16 x17 x18 x19 x20 x21 x22 x23 x24))))))) (fun h10 => rfl))) (fun h9 => rfl))) (fun h8 => rfl))))))))))))))) (fun h1 => rfl))) (fun h0 => rfl)))
set_option maxRecDepth 100000 in
set_option maxHeartbeats 4000000 in
theorem qm36l1 : ∀ m, SumKOk Try.prog (loopN Try.f36 1) 117 [2, 5, 6, 7, 10, 12, 15, 16, 19, 20, 21, 22, 23] [12, 19, 20] (q36l1 m) := by
  intro m
  induction m with
  | zero =>
    intro vals s x h1 h2 h3
    unfold q36l1 at h3; split at h3
    · rename_i h; split at h3
      · rename_i hc; obtain ⟨rfl, rfl, rfl, rfl, rfl, rfl, rfl, rfl, rfl, rfl, rfl, rfl, rfl, rfl, rfl, rfl, rfl, rfl, rfl, rfl⟩ := hc; exact absurd h3 (by simp [r36l1, firstT, Nat.beq])
      · exact noQ_ok _ _ _ h1 h2 h3
    · exact noQ_ok _ _ _ h1 h2 h3
  | succ m ih =>
    intro vals s x h1 h2 h3
    unfold q36l1 at h3; split at h3
    · rename_i h; split at h3
      · rename_i hc; obtain ⟨rfl, rfl, rfl, rfl, rfl, rfl, rfl, rfl, rfl, rfl, rfl, rfl, rfl, rfl, rfl, rfl, rfl, rfl, rfl, rfl⟩ := hc; exact sum_step ok38 extOk mixed (lok36_1.inner (by kernel_rfl)) ih h1 h2 h (e36l1 m _ _ _ _ _ _ _ _ _ _ _ _ _ _ _ _ _ _ _ _ _ _ _ _ _) rfl h3
      · exact noQ_ok _ _ _ h1 h2 h3
    · exact noQ_ok _ _ _ h1 h2 h3
noncomputable def Q36l1 : SumK := fun vals s => q36l1 (fuelOf vals s.h) vals s
theorem qok36l1 : SumKOk Try.prog (loopN Try.f36 1) 117 [2, 5, 6, 7, 10, 12, 15, 16, 19, 20, 21, 22, 23] [12, 19, 20] Q36l1 := fuel_ok qm36l1 fuelOf
noncomputable def L36_2 : LoopT := addL L36_1 22 ([2, 5, 6, 7, 10, 12, 15, 16, 19, 20, 21, 22, 23], []) (sumK 117 [2, 5, 6, 7, 10, 12, 15, 16, 19, 20, 21, 22, 23] [12, 19, 20] Q36l1)
theorem lok36_2 : LfOkF Try.prog L36_2 Try.f36 := lfOkF_add lok36_1 qok36l1 (by kernel_rfl) (by kernel_rfl) (by kernel_rfl)

/-- spec.NarrowInput -/
noncomputable def r36 (x0 x1 x2 x3 x4 x5 x6 x7 : Nat) (x8 : Int) (x9 : ByteArray) (x10 x11 : Nat) (x12 : Int) (x13 : List ByteArray) (x14 : List (List Int)) : Nat × Nat × Nat × Int :=
 let c153 := (r36l1 (1000 + x14.length + x13.length) x8 x12 ((r54b x9 x13).2) 0 0 0 0 x0 x1 x2 x3 x4 x5 x6 x7 x10 x11 0 0 x0 x1 0 0 x13 x14)
 let c252 := (r36l1 (1000 + x14.length + x13.length) x8 x12 ((r54b x9 x13).2) 0 0 0 0 x0 x1 x2 x3 x4 x5 x6 x7 x10 x11 0 0 x1 x2 0 0 x13 x14)
 let c351 := (r36l1 (1000 + x14.length + x13.length) x8 x12 ((r54b x9 x13).2) 0 0 0 0 x0 x1 x2 x3 x4 x5 x6 x7 x10 x11 0 0 x2 x3 0 0 x13 x14)
 let c450 := (r36l1 (1000 + x14.length + x13.length) x8 x12 ((r54b x9 x13).2) 0 0 0 0 x0 x1 x2 x3 x4 x5 x6 x7 x10 x11 0 0 x3 x4 0 0 x13 x14)
 let c549 := (r36l1 (1000 + x14.length + x13.length) x8 x12 ((r54b x9 x13).2) 0 0 0 0 x0 x1 x2 x3 x4 x5 x6 x7 x10 x11 0 0 x4 x5 0 0 x13 x14)
 let c648 := (r36l1 (1000 + x14.length + x13.length) x8 x12 ((r54b x9 x13).2) 0 0 0 0 x0 x1 x2 x3 x4 x5 x6 x7 x10 x11 0 0 x5 x6 0 0 x13 x14)
 let c747 := (r36l1 (1000 + x14.length + x13.length) x8 x12 ((r54b x9 x13).2) 0 0 0 0 x0 x1 x2 x3 x4 x5 x6 x7 x10 x11 0 0 x6 x7 0 0 x13 x14)
 cond (Nat.beq ((r60 x10 x11 x0 x1 x2 x3 x4 x5 x6 x7 x13 x14).1) 0)
  (cond ((((r60 x10 x11 x0 x1 x2 x3 x4 x5 x6 x7 x13 x14).2) : Int) == 0)
  (cond (!(r68 x8 0 3))
  (0, 0, 0, 2)
  (cond (!(r68 x12 1 64))
  (0, 0, 0, 2)
  (cond ((((r60 x10 x11 x0 x1 x2 x3 x4 x5 x6 x7 x13 x14).2) : Int) != 0)
  (0, 0, 0, ((r60 x10 x11 x0 x1 x2 x3 x4 x5 x6 x7 x13 x14).2))
  (cond (Nat.beq ((r54b x9 x13).1) 0)
  (cond (decide ((((r54b x9 x13).2) : Int) < 0))
  (0, 0, 0, 6)
  (cond ((decide ((0 : Int) ≤ x8)) && (Nat.blt (Int.toNat x8) 4))
  (cond (Nat.beq (0 + (Int.toNat x8) * 2) 0)
  (cond (Nat.beq (r36l0 (1000 + x14.length + x13.length) x8 x12 ((r54b x9 x13).2) 0 x0 x1 x2 x3 x4 x5 x6 x7 x10 x11 0 0 x0 x1 x13 x14) 0)
  (0, 0, 0, 4)
  (cond (Nat.beq (r36l0 (1000 + x14.length + x13.length) x8 x12 ((r54b x9 x13).2) 0 x0 x1 x2 x3 x4 x5 x6 x7 x10 x11 0 0 x0 x1 x13 x14) 1)
  (cond (Nat.beq (c153.1) 0)
  (cond (((c153.2.1) : Int) == 0)
  (0, 0, 0, 6)
  (0, (c153.2.2.2.2.2.2.2.2.2.2.1), (c153.2.2.2.2.2.2.2.2.2.2.2), 0))
  (1, 0, 0, 0))
  (1, 0, 0, 0)))
  (cond (Nat.beq (0 + (Int.toNat x8) * 2) 1)
  (cond (Nat.beq (r36l0 (1000 + x14.length + x13.length) x8 x12 ((r54b x9 x13).2) 0 x0 x1 x2 x3 x4 x5 x6 x7 x10 x11 0 0 x1 x2 x13 x14) 0)
  (0, 0, 0, 4)
  (cond (Nat.beq (r36l0 (1000 + x14.length + x13.length) x8 x12 ((r54b x9 x13).2) 0 x0 x1 x2 x3 x4 x5 x6 x7 x10 x11 0 0 x1 x2 x13 x14) 1)
  (cond (Nat.beq (c252.1) 0)
  (cond (((c252.2.1) : Int) == 0)
  (0, 0, 0, 6)
  (0, (c252.2.2.2.2.2.2.2.2.2.2.1), (c252.2.2.2.2.2.2.2.2.2.2.2), 0))
  (1, 0, 0, 0))
  (1, 0, 0, 0)))
  (cond (Nat.beq (0 + (Int.toNat x8) * 2) 2)
  (cond (Nat.beq (r36l0 (1000 + x14.length + x13.length) x8 x12 ((r54b x9 x13).2) 0 x0 x1 x2 x3 x4 x5 x6 x7 x10 x11 0 0 x2 x3 x13 x14) 0)
  (0, 0, 0, 4)
  (cond (Nat.beq (r36l0 (1000 + x14.length + x13.length) x8 x12 ((r54b x9 x13).2) 0 x0 x1 x2 x3 x4 x5 x6 x7 x10 x11 0 0 x2 x3 x13 x14) 1)
  (cond (Nat.beq (c351.1) 0)
  (cond (((c351.2.1) : Int) == 0)
  (0, 0, 0, 6)
  (0, (c351.2.2.2.2.2.2.2.2.2.2.1), (c351.2.2.2.2.2.2.2.2.2.2.2), 0))
  (1, 0, 0, 0))
  (1, 0, 0, 0)))
  (cond (Nat.beq (0 + (Int.toNat x8) * 2) 3)
  (cond (Nat.beq (r36l0 (1000 + x14.length + x13.length) x8 x12 ((r54b x9 x13).2) 0 x0 x1 x2 x3 x4 x5 x6 x7 x10 x11 0 0 x3 x4 x13 x14) 0)
  (0, 0, 0, 4)
  (cond (Nat.beq (r36l0 (1000 + x14.length + x13.length) x8 x12 ((r54b x9 x13).2) 0 x0 x1 x2 x3 x4 x5 x6 x7 x10 x11 0 0 x3 x4 x13 x14) 1)
  (cond (Nat.beq (c450.1) 0)
  (cond (((c450.2.1) : Int) == 0)
  (0, 0, 0, 6)
  (0, (c450.2.2.2.2.2.2.2.2.2.2.1), (c450.2.2.2.2.2.2.2.2.2.2.2), 0))
  (1, 0, 0, 0))
  (1, 0, 0, 0)))
  (cond (Nat.beq (0 + (Int.toNat x8) * 2) 4)
  (cond (Nat.beq (r36l0 (1000 + x14.length + x13.length) x8 x12 ((r54b x9 x13).2) 0 x0 x1 x2 x3 x4 x5 x6 x7 x10 x11 0 0 x4 x5 x13 x14) 0)
  (0, 0, 0, 4)
  (cond (Nat.beq (r36l0 (1000 + x14.length + x13.length) x8 x12 ((r54b x9 x13).2) 0 x0 x1 x2 x3 x4 x5 x6 x7 x10 x11 0 0 x4 x5 x13 x14) 1)
  (cond (Nat.beq (c549.1) 0)
  (cond (((c549.2.1) : Int) == 0)
  (0, 0, 0, 6)
  (0, (c549.2.2.2.2.2.2.2.2.2.2.1), (c549.2.2.2.2.2.2.2.2.2.2.2), 0))
  (1, 0, 0, 0))
  (1, 0, 0, 0)))
  (cond (Nat.beq (0 + (Int.toNat x8) * 2) 5)
  (cond (Nat.beq (r36l0 (1000 + x14.length + x13.length) x8 x12 ((r54b x9 x13).2) 0 x0 x1 x2 x3 x4 x5 x6 x7 x10 x11 0 0 x5 x6 x13 x14) 0)
  (0, 0, 0, 4)
  (cond (Nat.beq (r36l0 (1000 + x14.length + x13.length) x8 x12 ((r54b x9 x13).2) 0 x0 x1 x2 x3 x4 x5 x6 x7 x10 x11 0 0 x5 x6 x13 x14) 1)
  (cond (Nat.beq (c648.1) 0)
  (cond (((c648.2.1) : Int) == 0)
  (0, 0, 0, 6)
  (0, (c648.2.2.2.2.2.2.2.2.2.2.1), (c648.2.2.2.2.2.2.2.2.2.2.2), 0))
  (1, 0, 0, 0))
  (1, 0, 0, 0)))
  (cond (Nat.beq (0 + (Int.toNat x8) * 2) 6)
  (cond (Nat.beq (r36l0 (1000 + x14.length + x13.length) x8 x12 ((r54b x9 x13).2) 0 x0 x1 x2 x3 x4 x5 x6 x7 x10 x11 0 0 x6 x7 x13 x14) 0)
  (0, 0, 0, 4)
  (cond (Nat.beq (r36l0 (1000 + x14.length + x13.length) x8 x12 ((r54b x9 x13).2) 0 x0 x1 x2 x3 x4 x5 x6 x7 x10 x11 0 0 x6 x7 x13 x14) 1)
  (cond (Nat.beq (c747.1) 0)
  (cond (((c747.2.1) : Int) == 0)
  (0, 0, 0, 6)
  (0, (c747.2.2.2.2.2.2.2.2.2.2.1), (c747.2.2.2.2.2.2.2.2.2.2.2), 0))
  (1, 0, 0, 0))
  (1, 0, 0, 0)))
  (1, 0, 0, 0))))))))
  (1, 0, 0, 0)))
  (1, 0, 0, 0)))))
  (cond ((((r60 x10 x11 x0 x1 x2 x3 x4 x5 x6 x7 x13 x14).2) : Int) != 0)
  (0, 0, 0, ((r60 x10 x11 x0 x1 x2 x3 x4 x5 x6 x7 x13 x14).2))
  (cond (Nat.beq ((r54b x9 x13).1) 0)
  (cond (decide ((((r54b x9 x13).2) : Int) < 0))
  (0, 0, 0, 6)
  (cond ((decide ((0 : Int) ≤ x8)) && (Nat.blt (Int.toNat x8) 4))
  (cond (Nat.beq (0 + (Int.toNat x8) * 2) 0)
  (cond (Nat.beq (r36l0 (1000 + x14.length + x13.length) x8 x12 ((r54b x9 x13).2) 0 x0 x1 x2 x3 x4 x5 x6 x7 x10 x11 0 0 x0 x1 x13 x14) 0)
  (0, 0, 0, 4)
  (cond (Nat.beq (r36l0 (1000 + x14.length + x13.length) x8 x12 ((r54b x9 x13).2) 0 x0 x1 x2 x3 x4 x5 x6 x7 x10 x11 0 0 x0 x1 x13 x14) 1)
  (cond (Nat.beq (c153.1) 0)
  (cond (((c153.2.1) : Int) == 0)
  (0, 0, 0, 6)
  (0, (c153.2.2.2.2.2.2.2.2.2.2.1), (c153.2.2.2.2.2.2.2.2.2.2.2), 0))
  (1, 0, 0, 0))
  (1, 0, 0, 0)))
  (cond (Nat.beq (0 + (Int.toNat x8) * 2) 1)
  (cond (Nat.beq (r36l0 (1000 + x14.length + x13.length) x8 x12 ((r54b x9 x13).2) 0 x0 x1 x2 x3 x4 x5 x6 x7 x10 x11 0 0 x1 x2 x13 x14) 0)
  (0, 0, 0, 4)
  (cond (Nat.beq (r36l0 (1000 + x14.length + x13.length) x8 x12 ((r54b x9 x13).2) 0 x0 x1 x2 x3 x4 x5 x6 x7 x10 x11 0 0 x1 x2 x13 x14) 1)
  (cond (Nat.beq (c252.1) 0)
  (cond (((c252.2.1) : Int) == 0)
  (0, 0, 0, 6)
  (0, (c252.2.2.2.2.2.2.2.2.2.2.1), (c252.2.2.2.2.2.2.2.2.2.2.2), 0))
  (1, 0, 0, 0))
  (1, 0, 0, 0)))
  (cond (Nat.beq (0 + (Int.toNat x8) * 2) 2)
  (cond (Nat.beq (r36l0 (1000 + x14.length + x13.length) x8 x12 ((r54b x9 x13).2) 0 x0 x1 x2 x3 x4 x5 x6 x7 x10 x11 0 0 x2 x3 x13 x14) 0)
  (0, 0, 0, 4)
  (cond (Nat.beq (r36l0 (1000 + x14.length + x13.length) x8 x12 ((r54b x9 x13).2) 0 x0 x1 x2 x3 x4 x5 x6 x7 x10 x11 0 0 x2 x3 x13 x14) 1)
  (cond (Nat.beq (c351.1) 0)
  (cond (((c351.2.1) : Int) == 0)
  (0, 0, 0, 6)
  (0, (c351.2.2.2.2.2.2.2.2.2.2.1), (c351.2.2.2.2.2.2.2.2.2.2.2), 0))
  (1, 0, 0, 0))
  (1, 0, 0, 0)))
  (cond (Nat.beq (0 + (Int.toNat x8) * 2) 3)
  (cond (Nat.beq (r36l0 (1000 + x14.length + x13.length) x8 x12 ((r54b x9 x13).2) 0 x0 x1 x2 x3 x4 x5 x6 x7 x10 x11 0 0 x3 x4 x13 x14) 0)
  (0, 0, 0, 4)
  (cond (Nat.beq (r36l0 (1000 + x14.length + x13.length) x8 x12 ((r54b x9 x13).2) 0 x0 x1 x2 x3 x4 x5 x6 x7 x10 x11 0 0 x3 x4 x13 x14) 1)
  (cond (Nat.beq (c450.1) 0)
  (cond (((c450.2.1) : Int) == 0)
  (0, 0, 0, 6)
  (0, (c450.2.2.2.2.2.2.2.2.2.2.1), (c450.2.2.2.2.2.2.2.2.2.2.2), 0))
  (1, 0, 0, 0))
  (1, 0, 0, 0)))
  (cond (Nat.beq (0 + (Int.toNat x8) * 2) 4)
  (cond (Nat.beq (r36l0 (1000 + x14.length + x13.length) x8 x12 ((r54b x9 x13).2) 0 x0 x1 x2 x3 x4 x5 x6 x7 x10 x11 0 0 x4 x5 x13 x14) 0)
  (0, 0, 0, 4)
  (cond (Nat.beq (r36l0 (1000 + x14.length + x13.length) x8 x12 ((r54b x9 x13).2) 0 x0 x1 x2 x3 x4 x5 x6 x7 x10 x11 0 0 x4 x5 x13 x14) 1)
  (cond (Nat.beq (c549.1) 0)
  (cond (((c549.2.1) : Int) == 0)
  (0, 0, 0, 6)
  (0, (c549.2.2.2.2.2.2.2.2.2.2.1), (c549.2.2.2.2.2.2.2.2.2.2.2), 0))
  (1, 0, 0, 0))
  (1, 0, 0, 0)))
  (cond (Nat.beq (0 + (Int.toNat x8) * 2) 5)
  (cond (Nat.beq (r36l0 (1000 + x14.length + x13.length) x8 x12 ((r54b x9 x13).2) 0 x0 x1 x2 x3 x4 x5 x6 x7 x10 x11 0 0 x5 x6 x13 x14) 0)
  (0, 0, 0, 4)
  (cond (Nat.beq (r36l0 (1000 + x14.length + x13.length) x8 x12 ((r54b x9 x13).2) 0 x0 x1 x2 x3 x4 x5 x6 x7 x10 x11 0 0 x5 x6 x13 x14) 1)
  (cond (Nat.beq (c648.1) 0)
  (cond (((c648.2.1) : Int) == 0)
  (0, 0, 0, 6)
  (0, (c648.2.2.2.2.2.2.2.2.2.2.1), (c648.2.2.2.2.2.2.2.2.2.2.2), 0))
  (1, 0, 0, 0))
  (1, 0, 0, 0)))
  (cond (Nat.beq (0 + (Int.toNat x8) * 2) 6)
  (cond (Nat.beq (r36l0 (1000 + x14.length + x13.length) x8 x12 ((r54b x9 x13).2) 0 x0 x1 x2 x3 x4 x5 x6 x7 x10 x11 0 0 x6 x7 x13 x14) 0)
  (0, 0, 0, 4)
  (cond (Nat.beq (r36l0 (1000 + x14.length + x13.length) x8 x12 ((r54b x9 x13).2) 0 x0 x1 x2 x3 x4 x5 x6 x7 x10 x11 0 0 x6 x7 x13 x14) 1)
  (cond (Nat.beq (c747.1) 0)
  (cond (((c747.2.1) : Int) == 0)
  (0, 0, 0, 6)
  (0, (c747.2.2.2.2.2.2.2.2.2.2.1), (c747.2.2.2.2.2.2.2.2.2.2.2), 0))
  (1, 0, 0, 0))
  (1, 0, 0, 0)))
  (1, 0, 0, 0))))))))
  (1, 0, 0, 0)))
  (1, 0, 0, 0))))
  (1, 0, 0, 0)
noncomputable def a36 (x0 x1 x2 x3 x4 x5 x6 x7 : Nat) (x8 : Int) (x9 : ByteArray) (x10 x11 : Nat) (x12 : Int) (x13 : List ByteArray) (x14 : List (List Int)) (p : Nat × Nat × Nat × Int) : Res := firstT [((Nat.beq (p.1) 0), .tuple #[.agg #[.float .f32 (p.2.1), .float .f32 (p.2.2.1)], .int .i64 (p.2.2.2)], ⟨[⟨true, (some (.strs x13))⟩, ⟨true, (some (.tab [.int .i8, .int .i16, .fl .f32] x14))⟩], 2, []⟩)]
noncomputable def w36 (x0 x1 x2 x3 x4 x5 x6 x7 : Nat) (x8 : Int) (x9 : ByteArray) (x10 x11 : Nat) (x12 : Int) (x13 : List ByteArray) (x14 : List (List Int)) : Res :=
 let c153 := (r36l1 (1000 + x14.length + x13.length) x8 x12 ((r54b x9 x13).2) 0 0 0 0 x0 x1 x2 x3 x4 x5 x6 x7 x10 x11 0 0 x0 x1 0 0 x13 x14)
 let c252 := (r36l1 (1000 + x14.length + x13.length) x8 x12 ((r54b x9 x13).2) 0 0 0 0 x0 x1 x2 x3 x4 x5 x6 x7 x10 x11 0 0 x1 x2 0 0 x13 x14)
 let c351 := (r36l1 (1000 + x14.length + x13.length) x8 x12 ((r54b x9 x13).2) 0 0 0 0 x0 x1 x2 x3 x4 x5 x6 x7 x10 x11 0 0 x2 x3 0 0 x13 x14)
 let c450 := (r36l1 (1000 + x14.length + x13.length) x8 x12 ((r54b x9 x13).2) 0 0 0 0 x0 x1 x2 x3 x4 x5 x6 x7 x10 x11 0 0 x3 x4 0 0 x13 x14)
 let c549 := (r36l1 (1000 + x14.length + x13.length) x8 x12 ((r54b x9 x13).2) 0 0 0 0 x0 x1 x2 x3 x4 x5 x6 x7 x10 x11 0 0 x4 x5 0 0 x13 x14)
 let c648 := (r36l1 (1000 + x14.length + x13.length) x8 x12 ((r54b x9 x13).2) 0 0 0 0 x0 x1 x2 x3 x4 x5 x6 x7 x10 x11 0 0 x5 x6 0 0 x13 x14)
 let c747 := (r36l1 (1000 + x14.length + x13.length) x8 x12 ((r54b x9 x13).2) 0 0 0 0 x0 x1 x2 x3 x4 x5 x6 x7 x10 x11 0 0 x6 x7 0 0 x13 x14)
 (cond (Nat.beq ((r60 x10 x11 x0 x1 x2 x3 x4 x5 x6 x7 x13 x14).1) 0)
 (cond ((((r60 x10 x11 x0 x1 x2 x3 x4 x5 x6 x7 x13 x14).2) : Int) == 0)
  (cond (!(r68 x8 0 3))
  (a36 x0 x1 x2 x3 x4 x5 x6 x7 x8 x9 x10 x11 x12 x13 x14 (0, 0, 0, 2))
  (cond (!(r68 x12 1 64))
  (a36 x0 x1 x2 x3 x4 x5 x6 x7 x8 x9 x10 x11 x12 x13 x14 (0, 0, 0, 2))
  (cond ((((r60 x10 x11 x0 x1 x2 x3 x4 x5 x6 x7 x13 x14).2) : Int) != 0)
  (a36 x0 x1 x2 x3 x4 x5 x6 x7 x8 x9 x10 x11 x12 x13 x14 (0, 0, 0, ((r60 x10 x11 x0 x1 x2 x3 x4 x5 x6 x7 x13 x14).2)))
  (cond (Nat.beq ((r54b x9 x13).1) 0)
  (cond (decide ((((r54b x9 x13).2) : Int) < 0))
  (a36 x0 x1 x2 x3 x4 x5 x6 x7 x8 x9 x10 x11 x12 x13 x14 (0, 0, 0, 6))
  (cond ((decide ((0 : Int) ≤ x8)) && (Nat.blt (Int.toNat x8) 4))
  (cond (Nat.beq (0 + (Int.toNat x8) * 2) 0)
  (cond (Nat.beq (r36l0 (1000 + x14.length + x13.length) x8 x12 ((r54b x9 x13).2) 0 x0 x1 x2 x3 x4 x5 x6 x7 x10 x11 0 0 x0 x1 x13 x14) 0)
  (a36 x0 x1 x2 x3 x4 x5 x6 x7 x8 x9 x10 x11 x12 x13 x14 (0, 0, 0, 4))
  (cond (Nat.beq (r36l0 (1000 + x14.length + x13.length) x8 x12 ((r54b x9 x13).2) 0 x0 x1 x2 x3 x4 x5 x6 x7 x10 x11 0 0 x0 x1 x13 x14) 1)
  (cond (Nat.beq (c153.1) 0)
  (cond (((c153.2.1) : Int) == 0)
  (a36 x0 x1 x2 x3 x4 x5 x6 x7 x8 x9 x10 x11 x12 x13 x14 (0, 0, 0, 6))
  (a36 x0 x1 x2 x3 x4 x5 x6 x7 x8 x9 x10 x11 x12 x13 x14 (0, (c153.2.2.2.2.2.2.2.2.2.2.1), (c153.2.2.2.2.2.2.2.2.2.2.2), 0)))
  none)
  none))
  (cond (Nat.beq (0 + (Int.toNat x8) * 2) 1)
  (cond (Nat.beq (r36l0 (1000 + x14.length + x13.length) x8 x12 ((r54b x9 x13).2) 0 x0 x1 x2 x3 x4 x5 x6 x7 x10 x11 0 0 x1 x2 x13 x14) 0)
  (a36 x0 x1 x2 x3 x4 x5 x6 x7 x8 x9 x10 x11 x12 x13 x14 (0, 0, 0, 4))
  (cond (Nat.beq (r36l0 (1000 + x14.length + x13.length) x8 x12 ((r54b x9 x13).2) 0 x0 x1 x2 x3 x4 x5 x6 x7 x10 x11 0 0 x1 x2 x13 x14) 1)
  (cond (Nat.beq (c252.1) 0)
  (cond (((c252.2.1) : Int) == 0)
  (a36 x0 x1 x2 x3 x4 x5 x6 x7 x8 x9 x10 x11 x12 x13 x14 (0, 0, 0, 6))
  (a36 x0 x1 x2 x3 x4 x5 x6 x7 x8 x9 x10 x11 x12 x13 x14 (0, (c252.2.2.2.2.2.2.2.2.2.2.1), (c252.2.2.2.2.2.2.2.2.2.2.2), 0)))
  none)
  none))
  (cond (Nat.beq (0 + (Int.toNat x8) * 2) 2)
  (cond (Nat.beq (r36l0 (1000 + x14.length + x13.length) x8 x12 ((r54b x9 x13).2) 0 x0 x1 x2 x3 x4 x5 x6 x7 x10 x11 0 0 x2 x3 x13 x14) 0)
  (a36 x0 x1 x2 x3 x4 x5 x6 x7 x8 x9 x10 x11 x12 x13 x14 (0, 0, 0, 4))
  (cond (Nat.beq (r36l0 (1000 + x14.length + x13.length) x8 x12 ((r54b x9 x13).2) 0 x0 x1 x2 x3 x4 x5 x6 x7 x10 x11 0 0 x2 x3 x13 x14) 1)
  (cond (Nat.beq (c351.1) 0)
  (cond (((c351.2.1) : Int) == 0)
  (a36 x0 x1 x2 x3 x4 x5 x6 x7 x8 x9 x10 x11 x12 x13 x14 (0, 0, 0, 6))
  (a36 x0 x1 x2 x3 x4 x5 x6 x7 x8 x9 x10 x11 x12 x13 x14 (0, (c351.2.2.2.2.2.2.2.2.2.2.1), (c351.2.2.2.2.2.2.2.2.2.2.2), 0)))
  none)
  none))
  (cond (Nat.beq (0 + (Int.toNat x8) * 2) 3)
  (cond (Nat.beq (r36l0 (1000 + x14.length + x13.length) x8 x12 ((r54b x9 x13).2) 0 x0 x1 x2 x3 x4 x5 x6 x7 x10 x11 0 0 x3 x4 x13 x14) 0)
  (a36 x0 x1 x2 x3 x4 x5 x6 x7 x8 x9 x10 x11 x12 x13 x14 (0, 0, 0, 4))
  (cond (Nat.beq (r36l0 (1000 + x14.length + x13.length) x8 x12 ((r54b x9 x13).2) 0 x0 x1 x2 x3 x4 x5 x6 x7 x10 x11 0 0 x3 x4 x13 x14) 1)
  (cond (Nat.beq (c450.1) 0)
  (cond (((c450.2.1) : Int) == 0)
  (a36 x0 x1 x2 x3 x4 x5 x6 x7 x8 x9 x10 x11 x12 x13 x14 (0, 0, 0, 6))
  (a36 x0 x1 x2 x3 x4 x5 x6 x7 x8 x9 x10 x11 x12 x13 x14 (0, (c450.2.2.2.2.2.2.2.2.2.2.1), (c450.2.2.2.2.2.2.2.2.2.2.2), 0)))
  none)
  none))
  (cond (Nat.beq (0 + (Int.toNat x8) * 2) 4)
  (cond (Nat.beq (r36l0 (1000 + x14.length + x13.length) x8 x12 ((r54b x9 x13).2) 0 x0 x1 x2 x3 x4 x5 x6 x7 x10 x11 0 0 x4 x5 x13 x14) 0)
  (a36 x0 x1 x2 x3 x4 x5 x6 x7 x8 x9 x10 x11 x12 x13 x14 (0, 0, 0, 4))
  (cond (Nat.beq (r36l0 (1000 + x14.length + x13.length) x8 x12 ((r54b x9 x13).2) 0 x0 x1 x2 x3 x4 x5 x6 x7 x10 x11 0 0 x4 x5 x13 x14) 1)
  (cond (Nat.beq (c549.1) 0)
  (cond (((c549.2.1) : Int) == 0)
  (a36 x0 x1 x2 x3 x4 x5 x6 x7 x8 x9 x10 x11 x12 x13 x14 (0, 0, 0, 6))
  (a36 x0 x1 x2 x3 x4 x5 x6 x7 x8 x9 x10 x11 x12 x13 x14 (0, (c549.2.2.2.2.2.2.2.2.2.2.1), (c549.2.2.2.2.2.2.2.2.2.2.2), 0)))
  none)
  none))
  (cond (Nat.beq (0 + (Int.toNat x8) * 2) 5)
  (cond (Nat.beq (r36l0 (1000 + x14.length + x13.length) x8 x12 ((r54b x9 x13).2) 0 x0 x1 x2 x3 x4 x5 x6 x7 x10 x11 0 0 x5 x6 x13 x14) 0)
  (a36 x0 x1 x2 x3 x4 x5 x6 x7 x8 x9 x10 x11 x12 x13 x14 (0, 0, 0, 4))
  (cond (Nat.beq (r36l0 (1000 + x14.length + x13.length) x8 x12 ((r54b x9 x13).2) 0 x0 x1 x2 x3 x4 x5 x6 x7 x10 x11 0 0 x5 x6 x13 x14) 1)
  (cond (Nat.beq (c648.1) 0)
  (cond (((c648.2.1) : Int) == 0)
  (a36 x0 x1 x2 x3 x4 x5 x6 x7 x8 x9 x10 x11 x12 x13 x14 (0, 0, 0, 6))
  (a36 x0 x1 x2 x3 x4 x5 x6 x7 x8 x9 x10 x11 x12 x13 x14 (0, (c648.2.2.2.2.2.2.2.2.2.2.1), (c648.2.2.2.2.2.2.2.2.2.2.2), 0)))
  none)
  none))
  (cond (Nat.beq (0 + (Int.toNat x8) * 2) 6)
  (cond (Nat.beq (r36l0 (1000 + x14.length + x13.length) x8 x12 ((r54b x9 x13).2) 0 x0 x1 x2 x3 x4 x5 x6 x7 x10 x11 0 0 x6 x7 x13 x14) 0)
  (a36 x0 x1 x2 x3 x4 x5 x6 x7 x8 x9 x10 x11 x12 x13 x14 (0, 0, 0, 4))
  (cond (Nat.beq (r36l0 (1000 + x14.length + x13.length) x8 x12 ((r54b x9 x13).2) 0 x0 x1 x2 x3 x4 x5 x6 x7 x10 x11 0 0 x6 x7 x13 x14) 1)
  (cond (Nat.beq (c747.1) 0)
  (cond (((c747.2.1) : Int) == 0)
  (a36 x0 x1 x2 x3 x4 x5 x6 x7 x8 x9 x10 x11 x12 x13 x14 (0, 0, 0, 6))
  (a36 x0 x1 x2 x3 x4 x5 x6 x7 x8 x9 x10 x11 x12 x13 x14 (0, (c747.2.2.2.2.2.2.2.2.2.2.1), (c747.2.2.2.2.2.2.2.2.2.2.2), 0)))
  none)
  none))
  none)))))))
  none))
  none))))
  (cond ((((r60 x10 x11 x0 x1 x2 x3 x4 x5 x6 x7 x13 x14).2) : Int) != 0)
  (a36 x0 x1 x2 x3 x4 x5 x6 x7 x8 x9 x10 x11 x12 x13 x14 (0, 0, 0, ((r60 x10 x11 x0 x1 x2 x3 x4 x5 x6 x7 x13 x14).2)))
  (cond (Nat.beq ((r54b x9 x13).1) 0)
  (cond (decide ((((r54b x9 x13).2) : Int) < 0))
  (a36 x0 x1 x2 x3 x4 x5 x6 x7 x8 x9 x10 x11 x12 x13 x14 (0, 0, 0, 6))
  (cond ((decide ((0 : Int) ≤ x8)) && (Nat.blt (Int.toNat x8) 4))
  (cond (Nat.beq (0 + (Int.toNat x8) * 2) 0)
  (cond (Nat.beq (r36l0 (1000 + x14.length + x13.length) x8 x12 ((r54b x9 x13).2) 0 x0 x1 x2 x3 x4 x5 x6 x7 x10 x11 0 0 x0 x1 x13 x14) 0)
  (a36 x0 x1 x2 x3 x4 x5 x6 x7 x8 x9 x10 x11 x12 x13 x14 (0, 0, 0, 4))
  (cond (Nat.beq (r36l0 (1000 + x14.length + x13.length) x8 x12 ((r54b x9 x13).2) 0 x0 x1 x2 x3 x4 x5 x6 x7 x10 x11 0 0 x0 x1 x13 x14) 1)
  (cond (Nat.beq (c153.1) 0)
  (cond (((c153.2.1) : Int) == 0)
  (a36 x0 x1 x2 x3 x4 x5 x6 x7 x8 x9 x10 x11 x12 x13 x14 (0, 0, 0, 6))
  (a36 x0 x1 x2 x3 x4 x5 x6 x7 x8 x9 x10 x11 x12 x13 x14 (0, (c153.2.2.2.2.2.2.2.2.2.2.1), (c153.2.2.2.2.2.2.2.2.2.2.2), 0)))
  none)
  none))
  (cond (Nat.beq (0 + (Int.toNat x8) * 2) 1)
  (cond (Nat.beq (r36l0 (1000 + x14.length + x13.length) x8 x12 ((r54b x9 x13).2) 0 x0 x1 x2 x3 x4 x5 x6 x7 x10 x11 0 0 x1 x2 x13 x14) 0)
  (a36 x0 x1 x2 x3 x4 x5 x6 x7 x8 x9 x10 x11 x12 x13 x14 (0, 0, 0, 4))
  (cond (Nat.beq (r36l0 (1000 + x14.length + x13.length) x8 x12 ((r54b x9 x13).2) 0 x0 x1 x2 x3 x4 x5 x6 x7 x10 x11 0 0 x1 x2 x13 x14) 1)
  (cond (Nat.beq (c252.1) 0)
  (cond (((c252.2.1) : Int) == 0)
  (a36 x0 x1 x2 x3 x4 x5 x6 x7 x8 x9 x10 x11 x12 x13 x14 (0, 0, 0, 6))
  (a36 x0 x1 x2 x3 x4 x5 x6 x7 x8 x9 x10 x11 x12 x13 x14 (0, (c252.2.2.2.2.2.2.2.2.2.2.1), (c252.2.2.2.2.2.2.2.2.2.2.2), 0)))
  none)
  none))
  (cond (Nat.beq (0 + (Int.toNat x8) * 2) 2)
  (cond (Nat.beq (r36l0 (1000 + x14.length + x13.length) x8 x12 ((r54b x9 x13).2) 0 x0 x1 x2 x3 x4 x5 x6 x7 x10 x11 0 0 x2 x3 x13 x14) 0)
  (a36 x0 x1 x2 x3 x4 x5 x6 x7 x8 x9 x10 x11 x12 x13 x14 (0, 0, 0, 4))
  (cond (Nat.beq (r36l0 (1000 + x14.length + x13.length) x8 x12 ((r54b x9 x13).2) 0 x0 x1 x2 x3 x4 x5 x6 x7 x10 x11 0 0 x2 x3 x13 x14) 1)
  (cond (Nat.beq (c351.1) 0)
  (cond (((c351.2.1) : Int) == 0)
  (a36 x0 x1 x2 x3 x4 x5 x6 x7 x8 x9 x10 x11 x12 x13 x14 (0, 0, 0, 6))
  (a36 x0 x1 x2 x3 x4 x5 x6 x7 x8 x9 x10 x11 x12 x13 x14 (0, (c351.2.2.2.2.2.2.2.2.2.2.1), (c351.2.2.2.2.2.2.2.2.2.2.2), 0)))
  none)
  none))
  (cond (Nat.beq (0 + (Int.toNat x8) * 2) 3)
  (cond (Nat.beq (r36l0 (1000 + x14.length + x13.length) x8 x12 ((r54b x9 x13).2) 0 x0 x1 x2 x3 x4 x5 x6 x7 x10 x11 0 0 x3 x4 x13 x14) 0)
  (a36 x0 x1 x2 x3 x4 x5 x6 x7 x8 x9 x10 x11 x12 x13 x14 (0, 0, 0, 4))
  (cond (Nat.beq (r36l0 (1000 + x14.length + x13.length) x8 x12 ((r54b x9 x13).2) 0 x0 x1 x2 x3 x4 x5 x6 x7 x10 x11 0 0 x3 x4 x13 x14) 1)
  (cond (Nat.beq (c450.1) 0)
  (cond (((c450.2.1) : Int) == 0)
  (a36 x0 x1 x2 x3 x4 x5 x6 x7 x8 x9 x10 x11 x12 x13 x14 (0, 0, 0, 6))
  (a36 x0 x1 x2 x3 x4 x5 x6 x7 x8 x9 x10 x11 x12 x13 x14 (0, (c450.2.2.2.2.2.2.2.2.2.2.1), (c450.2.2.2.2.2.2.2.2.2.2.2), 0)))
  none)
  none))
  (cond (Nat.beq (0 + (Int.toNat x8) * 2) 4)
  (cond (Nat.beq (r36l0 (1000 + x14.length + x13.length) x8 x12 ((r54b x9 x13).2) 0 x0 x1 x2 x3 x4 x5 x6 x7 x10 x11 0 0 x4 x5 x13 x14) 0)
  (a36 x0 x1 x2 x3 x4 x5 x6 x7 x8 x9 x10 x11 x12 x13 x14 (0, 0, 0, 4))
  (cond (Nat.beq (r36l0 (1000 + x14.length + x13.length) x8 x12 ((r54b x9 x13).2) 0 x0 x1 x2 x3 x4 x5 x6 x7 x10 x11 0 0 x4 x5 x13 x14) 1)
  (cond (Nat.beq (c549.1) 0)
  (cond (((c549.2.1) : Int) == 0)
  (a36 x0 x1 x2 x3 x4 x5 x6 x7 x8 x9 x10 x11 x12 x13 x14 (0, 0, 0, 6))
  (a36 x0 x1 x2 x3 x4 x5 x6 x7 x8 x9 x10 x11 x12 x13 x14 (0, (c549.2.2.2.2.2.2.2.2.2.2.1), (c549.2.2.2.2.2.2.2.2.2.2.2), 0)))
  none)
  none))
  (cond (Nat.beq (0 + (Int.toNat x8) * 2) 5)
  (cond (Nat.beq (r36l0 (1000 + x14.length + x13.length) x8 x12 ((r54b x9 x13).2) 0 x0 x1 x2 x3 x4 x5 x6 x7 x10 x11 0 0 x5 x6 x13 x14) 0)
  (a36 x0 x1 x2 x3 x4 x5 x6 x7 x8 x9 x10 x11 x12 x13 x14 (0, 0, 0, 4))
  (cond (Nat.beq (r36l0 (1000 + x14.length + x13.length) x8 x12 ((r54b x9 x13).2) 0 x0 x1 x2 x3 x4 x5 x6 x7 x10 x11 0 0 x5 x6 x13 x14) 1)
  (cond (Nat.beq (c648.1) 0)
  (cond (((c648.2.1) : Int) == 0)
  (a36 x0 x1 x2 x3 x4 x5 x6 x7 x8 x9 x10 x11 x12 x13 x14 (0, 0, 0, 6))
  (a36 x0 x1 x2 x3 x4 x5 x6 x7 x8 x9 x10 x11 x12 x13 x14 (0, (c648.2.2.2.2.2.2.2.2.2.2.1), (c648.2.2.2.2.2.2.2.2.2.2.2), 0)))
  none)
  none))
  (cond (Nat.beq (0 + (Int.toNat x8) * 2) 6)
  (cond (Nat.beq (r36l0 (1000 + x14.length + x13.length) x8 x12 ((r54b x9 x13).2) 0 x0 x1 x2 x3 x4 x5 x6 x7 x10 x11 0 0 x6 x7 x13 x14) 0)
  (a36 x0 x1 x2 x3 x4 x5 x6 x7 x8 x9 x10 x11 x12 x13 x14 (0, 0, 0, 4))
  (cond (Nat.beq (r36l0 (1000 + x14.length + x13.length) x8 x12 ((r54b x9 x13).2) 0 x0 x1 x2 x3 x4 x5 x6 x7 x10 x11 0 0 x6 x7 x13 x14) 1)
  (cond (Nat.beq (c747.1) 0)
  (cond (((c747.2.1) : Int) == 0)
  (a36 x0 x1 x2 x3 x4 x5 x6 x7 x8 x9 x10 x11 x12 x13 x14 (0, 0, 0, 6))
  (a36 x0 x1 x2 x3 x4 x5 x6 x7 x8 x9 x10 x11 x12 x13 x14 (0, (c747.2.2.2.2.2.2.2.2.2.2.1), (c747.2.2.2.2.2.2.2.2.2.2.2), 0)))
  none)
  none))
  none)))))))
  none))
  none)))
 none)
set_option maxRecDepth 100000 in
set_option maxHeartbeats 4000000 in
theorem e36 (x0 x1 x2 x3 x4 x5 x6 x7 : Nat) (x8 : Int) (x9 : ByteArray) (x10 x11 : Nat) (x12 : Int) (x13 : List ByteArray) (x14 : List (List Int)) : evFn Try.prog ext T38 L36_2 200 Try.f36 [.agg #[wsl 0, wsl 1], .agg #[.float .f32 x0, .float .f32 x1, .float .f32 x2, .float .f32 x3, .float .f32 x4, .float .f32 x5, .float .f32 x6, .float .f32 x7], .int .i64 x8, .string x9, .agg #[.float .f32 x10, .float .f32 x11], .int .i64 x12] ⟨[⟨true, (some (.strs x13))⟩, ⟨true, (some (.tab [.int .i8, .int .i16, .fl .f32] x14))⟩], 2, []⟩ = firstT [((Nat.beq ((r36 x0 x1 x2 x3 x4 x5 x6 x7 x8 x9 x10 x11 x12 x13 x14).1) 0), .tuple #[.agg #[.float .f32 ((r36 x0 x1 x2 x3 x4 x5 x6 x7 x8 x9 x10 x11 x12 x13 x14).2.1), .float .f32 ((r36 x0 x1 x2 x3 x4 x5 x6 x7 x8 x9 x10 x11 x12 x13 x14).2.2.1)], .int .i64 ((r36 x0 x1 x2 x3 x4 x5 x6 x7 x8 x9 x10 x11 x12 x13 x14).2.2.2)], ⟨[⟨true, (some (.strs x13))⟩, ⟨true, (some (.tab [.int .i8, .int .i16, .fl .f32] x14))⟩], 2, []⟩)] :=
 (show evFn Try.prog ext T38 L36_2 200 Try.f36 [.agg #[wsl 0, wsl 1], .agg #[.float .f32 x0, .float .f32 x1, .float .f32 x2, .float .f32 x3, .float .f32 x4, .float .f32 x5, .float .f32 x6, .float .f32 x7], .int .i64 x8, .string x9, .agg #[.float .f32 x10, .float .f32 x11], .int .i64 x12] ⟨[⟨true, (some (.strs x13))⟩, ⟨true, (some (.tab [.int .i8, .int .i16, .fl .f32] x14))⟩], 2, []⟩ = w36 x0 x1 x2 x3 x4 x5 x6 x7 x8 x9 x10 x11 x12 x13 x14 from by kernel_rfl).trans
 (show w36 x0 x1 x2 x3 x4 x5 x6 x7 x8 x9 x10 x11 x12 x13 x14 = a36 x0 x1 x2 x3 x4 x5 x6 x7 x8 x9 x10 x11 x12 x13 x14 (r36 x0 x1 x2 x3 x4 x5 x6 x7 x8 x9 x10 x11 x12 x13 x14) from by unfold w36 r36; exact (cond_app (a36 x0 x1 x2 x3 x4 x5 x6 x7 x8 x9 x10 x11 x12 x13 x14) _ (cond_app (a36 x0 x1 x2 x3 x4 x5 x6 x7 x8 x9 x10 x11 x12 x13 x14) _ (cond_app (a36 x0 x1 x2 x3 x4 x5 x6 x7 x8 x9 x10 x11 x12 x13 x14) _ rfl (cond_app (a36 x0 x1 x2 x3 x4 x5 x6 x7 x8 x9 x10 x11 x12 x13 x14) _ rfl (cond_app (a36 x0 x1 x2 x3 x4 x5 x6 x7 x8 x9 x10 x11 x12 x13 x14) _ rfl (cond_app (a36 x0 x1 x2 x3 x4 x5 x6 x7 x8 x9 x10 x11 x12 x13 x14) _ (cond_app (a36 x0 x1 x2 x3 x4 x5 x6 x7 x8 x9 x10 x11 x12 x13 x14) _ rfl (cond_app (a36 x0 x1 x2 x3 x4 x5 x6 x7 x8 x9 x10 x11 x12 x13 x14) _ (cond_app (a36 x0 x1 x2 x3 x4 x5 x6 x7 x8 x9 x10 x11 x12 x13 x14) _ (cond_app (a36 x0 x1 x2 x3 x4 x5 x6 x7 x8 x9 x10 x11 x12 x13 x14) _ rfl (cond_app (a36 x0 x1 x2 x3 x4 x5 x6 x7 x8 x9 x10 x11 x12 x13 x14) _ (cond_app (a36 x0 x1 x2 x3 x4 x5 x6 x7 x8 x9 x10 x11 x12 x13 x14) _ (cond_app (a36 x0 x1 x2 x3 x4 x5 x6 x7 x8 x9 x10 x11 x12 x13 x14) _ rfl rfl) rfl) rfl)) (cond_app (a36 x0 x1 x2 x3 x4 x5 x6 x7 x8 x9 x10 x11 x12 x13 x14) _ (cond_app (a36 x0 x1 x2 x3 x4 x5 x6 x7 x8 x9 x10 x11 x12 x13 x14) _ rfl (cond_app (a36 x0 x1 x2 x3 x4 x5 x6 x7 x8 x9 x10 x11 x12 x13 x14) _ (cond_app (a36 x0 x1 x2 x3 x4 x5 x6 x7 x8 x9 x10 x11 x12 x13 x14) _ (cond_app (a36 x0 x1 x2 x3 x4 x5 x6 x7 x8 x9 x10 x11 x12 x13 x14) _ rfl rfl) rfl) rfl)) (cond_app (a36 x0 x1 x2 x3 x4 x5 x6 x7 x8 x9 x10 x11 x12 x13 x14) _ (cond_app (a36 x0 x1 x2 x3 x4 x5 x6 x7 x8 x9 x10 x11 x12 x13 x14) _ rfl (cond_app (a36 x0 x1 x2 x3 x4 x5 x6 x7 x8 x9 x10 x11 x12 x13 x14) _ (cond_app (a36 x0 x1 x2 x3 x4 x5 x6 x7 x8 x9 x10 x11 x12 x13 x14) _ (cond_app (a36 x0 x1 x2 x3 x4 x5 x6 x7 x8 x9 x10 x11 x12 x13 x14) _ rfl rfl) rfl) rfl)) (cond_app (a36 x0 x1 x2 x3 x4 x5 x6 x7 x8 x9 x10 x11 x12 x13 x14) _ (cond_app (a36 x0 x1 x2 x3 x4 x5 x6 x7 x8 x9 x10 x11 x12 x13 x14) _ rfl (cond_app (a36 x0 x1 x2 x3 x4 x5 x6 x7 x8 x9 x10 x11 x12 x13 x14) _ (cond_app (a36 x0 x1 x2 x3 x4 x5 x6 x7 x8 x9 x10 x11 x12 x13 x14) _ (cond_app (a36 x0 x1 x2 x3 x4 x5 x6 x7 x8 x9 x10 x11 x12 x13 x14) _ rfl rfl) rfl) rfl)) (cond_app (a36 x0 x1 x2 x3 x4 x5 x6 x7 x8 x9 x10 x11 x12 x13 x14) _ (cond_app (a36 x0 x1 x2 x3 x4 x5 x6 x7 x8 x9 x10 x11 x12 x13 x14) _ rfl (cond_app (a36 x0 x1 x2 x3 x4 x5 x6 x7 x8 x9 x10 x11 x12 x13 x14) _ (cond_app (a36 x0 x1 x2 x3 x4 x5 x6 x7 x8 x9 x10 x11 x12 x13 x14) _ (cond_app (a36 x0 x1 x2 x3 x4 x5 x6 x7 x8 x9 x10 x11 x12 x13 x14) _ rfl rfl) rfl) rfl)) (cond_app (a36 x0 x1 x2 x3 x4 x5 x6 x7 x8 x9 x10 x11 x12 x13 x14) _ (cond_app (a36 x0 x1 x2 x3 x4 x5 x6 x7 x8 x9 x10 x11 x12 x13 x14) _ rfl (cond_app (a36 x0 x1 x2 x3 x4 x5 x6 x7 x8 x9 x10 x11 x12 x13 x14) _ (cond_app (a36 x0 x1 x2 x3 x4 x5 x6 x7 x8 x9 x10 x11 x12 x13 x14) _ (cond_app (a36 x0 x1 x2 x3 x4 x5 x6 x7 x8 x9 x10 x11 x12 x13 x14) _ rfl rfl) rfl) rfl)) (cond_app (a36 x0 x1 x2 x3 x4 x5 x6 x7 x8 x9 x10 x11 x12 x13 x14) _ (cond_app (a36 x0 x1 x2 x3 x4 x5 x6 x7 x8 x9 x10 x11 x12 x13 x14) _ rfl (cond_app (a36 x0 x1 x2 x3 x4 x5 x6 x7 x8 x9 x10 x11 x12 x13 x14) _ (cond_app (a36 x0 x1 x2 x3 x4 x5 x6 x7 x8 x9 x10 x11 x12 x13 x14) _ (cond_app (a36 x0 x1 x2 x3 x4 x5 x6 x7 x8 x9 x10 x11 x12 x13 x14) _ rfl rfl) rfl) rfl)) rfl))))))) rfl)) rfl)))) (cond_app (a36 x0 x1 x2 x3 x4 x5 x6 x7 x8 x9 x10 x11 x12 x13 x14) _ rfl (cond_app (a36 x0 x1 x2 x3 x4 x5 x6 x7 x8 x9 x10 x11 x12 x13 x14) _ (cond_app (a36 x0 x1 x2 x3 x4 x5 x6 x7 x8 x9 x10 x11 x12 x13 x14) _ rfl (cond_app (a36 x0 x1 x2 x3 x4 x5 x6 x7 x8 x9 x10 x11 x12 x13 x14) _ (cond_app (a36 x0 x1 x2 x3 x4 x5 x6 x7 x8 x9 x10 x11 x12 x13 x14) _ (cond_app (a36 x0 x1 x2 x3 x4 x5 x6 x7 x8 x9 x10 x11 x12 x13 x14) _ rfl (cond_app (a36 x0 x1 x2 x3 x4 x5 x6 x7 x8 x9 x10 x11 x12 x13 x14) _ (cond_app (a36 x0 x1 x2 x3 x4 x5 x6 x7 x8 x9 x10 x11 x12 x13 x14) _ (cond_app (a36 x0 x1 x2 x3 x4 x5 x6 x7 x8 x9 x10 x11 x12 x13 x14) _ rfl rfl) rfl) rfl)) (cond_app (a36 x0 x1 x2 x3 x4 x5 x6 x7 x8 x9 x10 x11 x12 x13 x14) _ (cond_app (a36 x0 x1 x2 x3 x4 x5 x6 x7 x8 x9 x10 x11 x12 x13 x14) _ rfl (cond_app (a36 x0 x1 x2 x3 x4 x5 x6 x7 x8 x9 x10 x11 x12 x13 x14) _ (cond_app (a36 x0 x1 x2 x3 x4 x5 x6 x7 x8 x9 x10 x11 x12 x13 x14) _ (cond_app (a36 x0 x1 x2 x3 x4 x5 x6 x7 x8 x9 x10 x11 x12 x13 x14) _ rfl rfl) rfl) rfl)) (cond_app (a36 x0 x1 x2 x3 x4 x5 x6 x7 x8 x9 x10 x11 x12 x13 x14) _ (cond_app (a36 x0 x1 x2 x3 x4 x5 x6 x7 x8 x9 x10 x11 x12 x13 x14) _ rfl (cond_app (a36 x0 x1 x2 x3 x4 x5 x6 x7 x8 x9 x10 x11 x12 x13 x14) _ (cond_app (a36 x0 x1 x2 x3 x4 x5 x6 x7 x8 x9 x10 x11 x12 x13 x14) _ (cond_app (a36 x0 x1 x2 x3 x4 x5 x6 x7 x8 x9 x10 x11 x12 x13 x14) _ rfl rfl) rfl) rfl)) (cond_app (a36 x0 x1 x2 x3 x4 x5 x6 x7 x8 x9 x10 x11 x12 x13 x14) _ (cond_app (a36 x0 x1 x2 x3 x4 x5 x6 x7 x8 x9 x10 x11 x12 x13 x14) _ rfl (cond_app (a36 x0 x1 x2 x3 x4 x5 x6 x7 x8 x9 x10 x11 x12 x13 x14) _ (cond_app (a36 x0 x1 x2 x3 x4 x5 x6 x7 x8 x9 x10 x11 x12 x13 x14) _ (cond_app (a36 x0 x1 x2 x3 x4 x5 x6 x7 x8 x9 x10 x11 x12 x13 x14) _ rfl rfl) rfl) rfl)) (cond_app (a36 x0 x1 x2 x3 x4 x5 x6 x7 x8 x9 x10 x11 x12 x13 x14) _ (cond_app (a36 x0 x1 x2 x3 x4 x5 x6 x7 x8 x9 x10 x11 x12 x13 x14) _ rfl (cond_app (a36 x0 x1 x2 x3 x4 x5 x6 x7 x8 x9 x10 x11 x12 x13 x14) _ (cond_app (a36 x0 x1 x2 x3 x4 x5 x6 x7 x8 x9 x10 x11 x12 x13 x14) _ (cond_app (a36 x0 x1 x2 x3 x4 x5 x6 x7 x8 x9 x10 x11 x12 x13 x14) _ rfl rfl) rfl) rfl)) (cond_app (a36 x0 x1 x2 x3 x4 x5 x6 x7 x8 x9 x10 x11 x12 x13 x14) _ (cond_app (a36 x0 x1 x2 x3 x4 x5 x6 x7 x8 x9 x10 x11 x12 x13 x14) _ rfl (cond_app (a36 x0 x1 x2 x3 x4 x5 x6 x7 x8 x9 x10 x11 x12 x13 x14) _ (cond_app (a36 x0 x1 x2 x3 x4 x5 x6 x7 x8 x9 x10 x11 x12 x13 x14) _ (cond_app (a36 x0 x1 x2 x3 x4 x5 x6 x7 x8 x9 x10 x11 x12 x13 x14) _ rfl rfl) rfl) rfl)) (cond_app (a36 x0 x1 x2 x3 x4 x5 x6 x7 x8 x9 x10 x11 x12 x13 x14) _ (cond_app (a36 x0 x1 x2 x3 x4 x5 x6 x7 x8 x9 x10 x11 x12 x13 x14) _ rfl (cond_app (a36 x0 x1 x2 x3 x4 x5 x6 x7 x8 x9 x10 x11 x12 x13 x14) _ (cond_app (a36 x0 x1 x2 x3 x4 x5 x6 x7 x8 x9 x10 x11 x12 x13 x14) _ (cond_app (a36 x0 x1 x2 x3 x4 x5 x6 x7 x8 x9 x10 x11 x12 x13 x14) _ rfl rfl) rfl) rfl)) rfl))))))) rfl)) rfl))) rfl))
noncomputable def s36 (args : List Value) (s : St) : List (Bool × Value × St) :=
 match args, s.h with
 | [.agg ⟨[.iface f0 .nilIface, .iface f1 .nilIface]⟩, .agg ⟨[.float .f32 x0, .float .f32 x1, .float .f32 x2, .float .f32 x3, .float .f32 x4, .float .f32 x5, .float .f32 x6, .float .f32 x7]⟩, .int .i64 x8, .string x9, .agg ⟨[.float .f32 x10, .float .f32 x11]⟩, .int .i64 x12], [⟨true, some (.strs x13)⟩, ⟨true, some (.tab [.int .i8, .int .i16, .fl .f32] x14)⟩] => if f0 = 0 ∧ f1 = 1 then [((Nat.beq ((r36 x0 x1 x2 x3 x4 x5 x6 x7 x8 x9 x10 x11 x12 x13 x14).1) 0), .tuple #[.agg #[.float .f32 ((r36 x0 x1 x2 x3 x4 x5 x6 x7 x8 x9 x10 x11 x12 x13 x14).2.1), .float .f32 ((r36 x0 x1 x2 x3 x4 x5 x6 x7 x8 x9 x10 x11 x12 x13 x14).2.2.1)], .int .i64 ((r36 x0 x1 x2 x3 x4 x5 x6 x7 x8 x9 x10 x11 x12 x13 x14).2.2.2)], ⟨[⟨true, (some (.strs x13))⟩, ⟨true, (some (.tab [.int .i8, .int .i16, .fl .f32] x14))⟩], 2, []⟩)] else T38 36 args s
 | _, _ => T38 36 args s
noncomputable def T39 : CallF := addF T38 36 s36
set_option maxRecDepth 100000 in
set_option maxHeartbeats 4000000 in
theorem ok39 : CfOk Try.prog T39 := by
  refine cfOk_add ok38 fun args s r s' h1 h2 h3 => ?_
  unfold s36 at h3; split at h3
  · rename_i h; split at h3
    · rename_i hc; obtain ⟨rfl, rfl⟩ := hc; exact callOk ok38 Try.func36 h1 h2 h lok36_2.body (e36 _ _ _ _ _ _ _ _ _ _ _ _ _ _ _) rfl h3
    · exact ok38 _ _ _ _ _ h1 h2 h3
  · exact ok38 _ _ _ _ _ h1 h2 h3

/-- impl.isWord -/
noncomputable def r78 (x0 : ByteArray) : Bool :=
 cond (x0.toList == (ByteArray.mk #[109, 105, 110]).toList)
  (true)
  (cond (x0.toList == (ByteArray.mk #[109, 97, 120]).toList)
  (true)
  ((x0.toList == (ByteArray.mk #[112, 105, 99, 107]).toList)))
noncomputable def a78 (x0 : ByteArray) (p : Bool) : Res := firstT [(true, .bool p, st0)]
noncomputable def w78 (x0 : ByteArray) : Res :=
 (cond (x0.toList == (ByteArray.mk #[109, 105, 110]).toList)
 (a78 x0 (true))
 (cond (x0.toList == (ByteArray.mk #[109, 97, 120]).toList)
  (a78 x0 (true))
  (a78 x0 ((x0.toList == (ByteArray.mk #[112, 105, 99, 107]).toList)))))
set_option maxRecDepth 100000 in
set_option maxHeartbeats 4000000 in
theorem e78 (x0 : ByteArray) : evFn Try.prog ext T39 noL 200 Try.f78 [.string x0] st0 = firstT [(true, .bool (r78 x0), st0)] :=
 (show evFn Try.prog ext T39 noL 200 Try.f78 [.string x0] st0 = w78 x0 from by kernel_rfl).trans
 (show w78 x0 = a78 x0 (r78 x0) from by unfold w78 r78; exact (cond_app (a78 x0) _ rfl (cond_app (a78 x0) _ rfl rfl)))
noncomputable def s78 (args : List Value) (s : St) : List (Bool × Value × St) :=
 match args, s.h with
 | [.string x0], [] => [(true, .bool (r78 x0), st0)]
 | _, _ => T39 78 args s
noncomputable def T40 : CallF := addF T39 78 s78
set_option maxRecDepth 100000 in
set_option maxHeartbeats 4000000 in
theorem ok40 : CfOk Try.prog T40 := by
  refine cfOk_add ok39 fun args s r s' h1 h2 h3 => ?_
  unfold s78 at h3; split at h3
  · rename_i h; exact callOk ok39 Try.func78 h1 h2 h (lfOkF_no _ _).body (e78 _) rfl h3
  · exact ok39 _ _ _ _ _ h1 h2 h3

/-- impl.isName, loop 0: one round -/
noncomputable def b49l0 (ih : ByteArray → Int → Int → Nat) (x0 : ByteArray) (x1 x2 : Int) : Nat :=
 cond (decide ((x2 : Int) < x1))
  (cond ((decide ((0 : Int) ≤ x2)) && (Nat.blt (Int.toNat x2) (x0.size)))
  (cond (decide ((((UInt8.toNat (List.getD (ByteArray.data x0).toList (Int.toNat x2) 0) : Nat) : Int) : Int) < 97))
  (0)
  (cond (decide ((((UInt8.toNat (List.getD (ByteArray.data x0).toList (Int.toNat x2) 0) : Nat) : Int) : Int) > 122))
  (0)
  (ih x0 x1 (IntKind.i64.wrap (x2 + 1)))))
  (2))
  (1)
noncomputable def r49l0 : Nat → ByteArray → Int → Int → Nat
 | 0 => fun _ _ _ => (2)
 | m + 1 => b49l0 (r49l0 m)
noncomputable def a49l0 (x0 : ByteArray) (x1 x2 : Int) (p : Nat) : Option (Fin' × List Value × St) := firstT ([((Nat.beq p 0), .ret, [.bool false], st0), ((Nat.beq p 1), .exit 0, [anyV], st0)].map fun (b, x) => (b, (x.1, frameOf 32 [2] x.2.1, x.2.2)))
noncomputable def u49l0 (x0 : ByteArray) (x1 x2 : Int) (p : Nat) : Option (Fin' × List Value × St) := alts ([((Nat.beq p 0), .ret, [.bool false], st0), ((Nat.beq p 1), .exit 0, [anyV], st0)].map fun (b, x) => (b, (x.1, frameOf 32 [2] x.2.1, x.2.2))) some
theorem v49l0 (x0 : ByteArray) (x1 x2 : Int) (p : Nat) : u49l0 x0 x1 x2 p = a49l0 x0 x1 x2 p := alts_first _
noncomputable def q49l0 (m : Nat) : SumK := fun vals s =>
 match vals, s.h with
 | [.string x0, .int .i64 x1, .int .i64 x2], [] => [((Nat.beq (r49l0 m x0 x1 x2) 0), .ret, [.bool false], st0), ((Nat.beq (r49l0 m x0 x1 x2) 1), .exit 0, [anyV], st0)]
 | _, _ => noQ vals s
noncomputable def w49l0 (ih : ByteArray → Int → Int → Nat) (x0 : ByteArray) (x1 x2 : Int) : Option (Fin' × List Value × St) :=
 (cond (decide ((x2 : Int) < x1))
 (cond ((decide ((0 : Int) ≤ x2)) && (Nat.blt (Int.toNat x2) (x0.size)))
  (cond (decide ((((UInt8.toNat (List.getD (ByteArray.data x0).toList (Int.toNat x2) 0) : Nat) : Int) : Int) < 97))
  (a49l0 x0 x1 x2 (0))
  (cond ((decide ((0 : Int) ≤ x2)) && (Nat.blt (Int.toNat x2) (x0.size)))
  (cond (decide ((((UInt8.toNat (List.getD (ByteArray.data x0).toList (Int.toNat x2) 0) : Nat) : Int) : Int) > 122))
  (a49l0 x0 x1 x2 (0))
  (u49l0 x0 x1 x2 (ih x0 x1 (IntKind.i64.wrap (x2 + 1)))))
  none))
  none)
 (a49l0 x0 x1 x2 (1)))
set_option maxRecDepth 100000 in
set_option maxHeartbeats 4000000 in
theorem e49l0 (m : Nat) (x0 : ByteArray) (x1 x2 : Int) : evC Try.prog ext T40 noL 200 (loopN Try.f49 0) (loopTail ([0, 17, 18], []) [2] [] (sumK 32 [0, 17, 18] [2] (q49l0 m))) (frameOf 32 [0, 17, 18] [.string x0, .int .i64 x1, .int .i64 x2]) ⟨[], 0, []⟩ = firstT ([((Nat.beq (r49l0 (m + 1) x0 x1 x2) 0), .ret, [.bool false], st0), ((Nat.beq (r49l0 (m + 1) x0 x1 x2) 1), .exit 0, [anyV], st0)].map fun (b, x) => (b, (x.1, frameOf 32 [2] x.2.1, x.2.2))) :=
 (show evC Try.prog ext T40 noL 200 (loopN Try.f49 0) (loopTail ([0, 17, 18], []) [2] [] (sumK 32 [0, 17, 18] [2] (q49l0 m))) (frameOf 32 [0, 17, 18] [.string x0, .int .i64 x1, .int .i64 x2]) ⟨[], 0, []⟩ = w49l0 (r49l0 m) x0 x1 x2 from by kernel_rfl).trans
 (show w49l0 (r49l0 m) x0 x1 x2 = a49l0 x0 x1 x2 (r49l0 (m + 1) x0 x1 x2) from by unfold w49l0; show _ = a49l0 x0 x1 x2 (b49l0 (r49l0 m) x0 x1 x2); unfold b49l0; exact (cond_both (a49l0 x0 x1 x2) _ (fun h0 => (cond_both (a49l0 x0 x1 x2) _ (fun h1 => (cond_both (a49l0 x0 x1 x2) _ (fun h2 => rfl) (fun h2 => (cond_t h1 (cond_app (a49l0 x0 x1 x2) _ rfl (v49l0 x0 x1 x2 ((r49l0 m) x0 x1 (IntKind.i64.wrap (x2 + 1))))))))) (fun h1 => rfl))) (fun h0 => rfl)))
set_option maxRecDepth 100000 in
set_option maxHeartbeats 4000000 in
theorem qm49l0 : ∀ m, SumKOk Try.prog (loopN Try.f49 0) 32 [0, 17, 18] [2] (q49l0 m) := by
  intro m
  induction m with
  | zero =>
    intro vals s x h1 h2 h3
    unfold q49l0 at h3; split at h3
    · rename_i h; exact absurd h3 (by simp [r49l0, firstT, Nat.beq])
    · exact noQ_ok _ _ _ h1 h2 h3
  | succ m ih =>
    intro vals s x h1 h2 h3
    unfold q49l0 at h3; split at h3
    · rename_i h; exact sum_step ok40 extOk mixed ((lfOkF_no _ _).inner (by kernel_rfl)) ih h1 h2 h (e49l0 m _ _ _) rfl h3
    · exact noQ_ok _ _ _ h1 h2 h3
noncomputable def Q49l0 : SumK := fun vals s => q49l0 (fuelOf vals s.h) vals s
theorem qok49l0 : SumKOk Try.prog (loopN Try.f49 0) 32 [0, 17, 18] [2] Q49l0 := fuel_ok qm49l0 fuelOf
noncomputable def L49_1 : LoopT := addL noL 5 ([0, 17, 18], []) (sumK 32 [0, 17, 18] [2] Q49l0)
theorem lok49_1 : LfOkF Try.prog L49_1 Try.f49 := lfOkF_add (lfOkF_no _ _) qok49l0 (by kernel_rfl) (by kernel_rfl) (by kernel_rfl)

/-- impl.isName -/
noncomputable def r49 (x0 : ByteArray) : Nat × Bool :=
 cond (decide (((((x0.size) : Nat) : Int) : Int) < 1))
  (0, false)
  (cond (decide (((((x0.size) : Nat) : Int) : Int) > 8))
  (0, false)
  (cond (r78 x0)
  (0, false)
  (cond (Nat.beq (r49l0 (1000 + (x0.size)) x0 (((x0.size) : Nat) : Int) 0) 0)
  (0, false)
  (cond (Nat.beq (r49l0 (1000 + (x0.size)) x0 (((x0.size) : Nat) : Int) 0) 1)
  (0, true)
  (1, false)))))
noncomputable def a49 (x0 : ByteArray) (p : Nat × Bool) : Res := firstT [((Nat.beq (p.1) 0), .bool (p.2), st0)]
noncomputable def w49 (x0 : ByteArray) : Res :=
 (cond (decide (((((x0.size) : Nat) : Int) : Int) < 1))
 (a49 x0 (0, false))
 (cond (decide (((((x0.size) : Nat) : Int) : Int) > 8))
  (a49 x0 (0, false))
  (cond (r78 x0)
  (a49 x0 (0, false))
  (cond (Nat.beq (r49l0 (1000 + (x0.size)) x0 (((x0.size) : Nat) : Int) 0) 0)
  (a49 x0 (0, false))
  (cond (Nat.beq (r49l0 (1000 + (x0.size)) x0 (((x0.size) : Nat) : Int) 0) 1)
  (a49 x0 (0, true))
  none)))))
set_option maxRecDepth 100000 in
set_option maxHeartbeats 4000000 in
theorem e49 (x0 : ByteArray) : evFn Try.prog ext T40 L49_1 200 Try.f49 [.string x0] st0 = firstT [((Nat.beq ((r49 x0).1) 0), .bool ((r49 x0).2), st0)] :=
 (show evFn Try.prog ext T40 L49_1 200 Try.f49 [.string x0] st0 = w49 x0 from by kernel_rfl).trans
 (show w49 x0 = a49 x0 (r49 x0) from by unfold w49 r49; exact (cond_app (a49 x0) _ rfl (cond_app (a49 x0) _ rfl (cond_app (a49 x0) _ rfl (cond_app (a49 x0) _ rfl (cond_app (a49 x0) _ rfl rfl))))))
noncomputable def s49 (args : List Value) (s : St) : List (Bool × Value × St) :=
 match args, s.h with
 | [.string x0], [] => [((Nat.beq ((r49 x0).1) 0), .bool ((r49 x0).2), st0)]
 | _, _ => T40 49 args s
noncomputable def T41 : CallF := addF T40 49 s49
set_option maxRecDepth 100000 in
set_option maxHeartbeats 4000000 in
theorem ok41 : CfOk Try.prog T41 := by
  refine cfOk_add ok40 fun args s r s' h1 h2 h3 => ?_
  unfold s49 at h3; split at h3
  · rename_i h; exact callOk ok40 Try.func49 h1 h2 h lok49_1.body (e49 _) rfl h3
  · exact ok40 _ _ _ _ _ h1 h2 h3

/-- slices.Index[[]string,string], loop 0: one round -/
noncomputable def b56l0 (ih : Nat → Nat → ByteArray → Int → Int → List ByteArray → (Nat × Int)) (x0 x1 : Nat) (x2 : ByteArray) (x3 x4 : Int) (x5 : List ByteArray) : Nat × Int :=
 cond (decide ((x4 : Int) < x3))
  (cond ((decide ((0 : Int) ≤ x4)) && (Nat.blt (Int.toNat x4) x0))
  (cond (Nat.blt (0 + (Int.toNat x4)) x5.length)
  (cond (x2.toList == (x5.getD (0 + (Int.toNat x4)) .empty).toList)
  (0, x4)
  (ih x0 x1 x2 x3 (IntKind.i64.wrap (x4 + 1)) x5))
  (2, 0))
  (2, 0))
  (1, 0)
noncomputable def r56l0 : Nat → Nat → Nat → ByteArray → Int → Int → List ByteArray → (Nat × Int)
 | 0 => fun _ _ _ _ _ _ => (2, 0)
 | m + 1 => b56l0 (r56l0 m)
noncomputable def a56l0 (x0 x1 : Nat) (x2 : ByteArray) (x3 x4 : Int) (x5 : List ByteArray) (p : Nat × Int) : Option (Fin' × List Value × St) := firstT ([((Nat.beq (p.1) 0), .ret, [.int .i64 (p.2)], ⟨[⟨true, (some (.strs x5))⟩], 1, []⟩), ((Nat.beq (p.1) 1), .exit 0, [anyV], ⟨[⟨true, (some (.strs x5))⟩], 1, []⟩)].map fun (b, x) => (b, (x.1, frameOf 19 [4] x.2.1, x.2.2)))
noncomputable def u56l0 (x0 x1 : Nat) (x2 : ByteArray) (x3 x4 : Int) (x5 : List ByteArray) (p : Nat × Int) : Option (Fin' × List Value × St) := alts ([((Nat.beq (p.1) 0), .ret, [.int .i64 (p.2)], ⟨[⟨true, (some (.strs x5))⟩], 1, []⟩), ((Nat.beq (p.1) 1), .exit 0, [anyV], ⟨[⟨true, (some (.strs x5))⟩], 1, []⟩)].map fun (b, x) => (b, (x.1, frameOf 19 [4] x.2.1, x.2.2))) some
theorem v56l0 (x0 x1 : Nat) (x2 : ByteArray) (x3 x4 : Int) (x5 : List ByteArray) (p : Nat × Int) : u56l0 x0 x1 x2 x3 x4 x5 p = a56l0 x0 x1 x2 x3 x4 x5 p := alts_first _
noncomputable def q56l0 (m : Nat) : SumK := fun vals s =>
 match vals, s.h with
 | [.slice (some ⟨f0, f1, some f2⟩) x0 x1, .string x2, .int .i64 x3, .int .i64 x4], [⟨true, some (.strs x5)⟩] => if f0 = 0 ∧ f1 = 0 ∧ f2 = 0 then [((Nat.beq ((r56l0 m x0 x1 x2 x3 x4 x5).1) 0), .ret, [.int .i64 ((r56l0 m x0 x1 x2 x3 x4 x5).2)], ⟨[⟨true, (some (.strs x5))⟩], 1, []⟩), ((Nat.beq ((r56l0 m x0 x1 x2 x3 x4 x5).1) 1), .exit 0, [anyV], ⟨[⟨true, (some (.strs x5))⟩], 1, []⟩)] else noQ vals s
 | _, _ => noQ vals s
noncomputable def w56l0 (ih : Nat → Nat → ByteArray → Int → Int → List ByteArray → (Nat × Int)) (x0 x1 : Nat) (x2 : ByteArray) (x3 x4 : Int) (x5 : List ByteArray) : Option (Fin' × List Value × St) :=
 (cond (decide ((x4 : Int) < x3))
 (cond ((decide ((0 : Int) ≤ x4)) && (Nat.blt (Int.toNat x4) x0))
  (cond (Nat.blt (0 + (Int.toNat x4)) x5.length)
  (cond (x2.toList == (x5.getD (0 + (Int.toNat x4)) .empty).toList)
  (a56l0 x0 x1 x2 x3 x4 x5 (0, x4))
  (u56l0 x0 x1 x2 x3 x4 x5 (ih x0 x1 x2 x3 (IntKind.i64.wrap (x4 + 1)) x5)))
  none)
  none)
 (a56l0 x0 x1 x2 x3 x4 x5 (1, 0)))
set_option maxRecDepth 100000 in
set_option maxHeartbeats 4000000 in
theorem e56l0 (m : Nat) (x0 x1 : Nat) (x2 : ByteArray) (x3 x4 : Int) (x5 : List ByteArray) : evC Try.prog ext T41 noL 200 (loopN Try.f56 0) (loopTail ([0, 1, 7, 8], []) [4] [] (sumK 19 [0, 1, 7, 8] [4] (q56l0 m))) (frameOf 19 [0, 1, 7, 8] [.slice (some ⟨0, 0, some 0⟩) x0 x1, .string x2, .int .i64 x3, .int .i64 x4]) ⟨[⟨true, (some (.strs x5))⟩], 1, []⟩ = firstT ([((Nat.beq ((r56l0 (m + 1) x0 x1 x2 x3 x4 x5).1) 0), .ret, [.int .i64 ((r56l0 (m + 1) x0 x1 x2 x3 x4 x5).2)], ⟨[⟨true, (some (.strs x5))⟩], 1, []⟩), ((Nat.beq ((r56l0 (m + 1) x0 x1 x2 x3 x4 x5).1) 1), .exit 0, [anyV], ⟨[⟨true, (some (.strs x5))⟩], 1, []⟩)].map fun (b, x) => (b, (x.1, frameOf 19 [4] x.2.1, x.2.2))) :=
 (show evC Try.prog ext T41 noL 200 (loopN Try.f56 0) (loopTail ([0, 1, 7, 8], []) [4] [] (sumK 19 [0, 1, 7, 8] [4] (q56l0 m))) (frameOf 19 [0, 1, 7, 8] [.slice (some ⟨0, 0, some 0⟩) x0 x1, .string x2, .int .i64 x3, .int .i64 x4]) ⟨[⟨true, (some (.strs x5))⟩], 1, []⟩ = w56l0 (r56l0 m) x0 x1 x2 x3 x4 x5 from by kernel_rfl).trans
 (show w56l0 (r56l0 m) x0 x1 x2 x3 x4 x5 = a56l0 x0 x1 x2 x3 x4 x5 (r56l0 (m + 1) x0 x1 x2 x3 x4 x5) from by unfold w56l0; show _ = a56l0 x0 x1 x2 x3 x4 x5 (b56l0 (r56l0 m) x0 x1 x2 x3 x4 x5); unfold b56l0; exact (cond_app (a56l0 x0 x1 x2 x3 x4 x5) _ (cond_app (a56l0 x0 x1 x2 x3 x4 x5) _ (cond_app (a56l0 x0 x1 x2 x3 x4 x5) _ (cond_app (a56l0 x0 x1 x2 x3 x4 x5) _ rfl (v56l0 x0 x1 x2 x3 x4 x5 ((r56l0 m) x0 x1 x2 x3 (IntKind.i64.wrap (x4 + 1)) x5))) rfl) rfl) rfl))
set_option maxRecDepth 100000 in
set_option maxHeartbeats 4000000 in
theorem qm56l0 : ∀ m, SumKOk Try.prog (loopN Try.f56 0) 19 [0, 1, 7, 8] [4] (q56l0 m) := by
  intro m
  induction m with
  | zero =>
    intro vals s x h1 h2 h3
    unfold q56l0 at h3; split at h3
    · rename_i h; split at h3
      · rename_i hc; obtain ⟨rfl, rfl, rfl⟩ := hc; exact absurd h3 (by simp [r56l0, firstT, Nat.beq])
      · exact noQ_ok _ _ _ h1 h2 h3
    · exact noQ_ok _ _ _ h1 h2 h3
  | succ m ih =>
    intro vals s x h1 h2 h3
    unfold q56l0 at h3; split at h3
    · rename_i h; split at h3
      · rename_i hc; obtain ⟨rfl, rfl, rfl⟩ := hc; exact sum_step ok41 extOk mixed ((lfOkF_no _ _).inner (by kernel_rfl)) ih h1 h2 h (e56l0 m _ _ _ _ _ _) rfl h3
      · exact noQ_ok _ _ _ h1 h2 h3
    · exact noQ_ok _ _ _ h1 h2 h3
noncomputable def Q56l0 : SumK := fun vals s => q56l0 (fuelOf vals s.h) vals s
theorem qok56l0 : SumKOk Try.prog (loopN Try.f56 0) 19 [0, 1, 7, 8] [4] Q56l0 := fuel_ok qm56l0 fuelOf
noncomputable def L56_1 : LoopT := addL noL 3 ([0, 1, 7, 8], []) (sumK 19 [0, 1, 7, 8] [4] Q56l0)
theorem lok56_1 : LfOkF Try.prog L56_1 Try.f56 := lfOkF_add (lfOkF_no _ _) qok56l0 (by kernel_rfl) (by kernel_rfl) (by kernel_rfl)

/-- slices.Index[[]string,string] -/
noncomputable def r56 (x0 x1 : Nat) (x2 : ByteArray) (x3 : List ByteArray) : Nat × Int :=
 cond (Nat.beq ((r56l0 (1000 + x3.length + (x2.size)) x0 x1 x2 ((x0 : Nat) : Int) 0 x3).1) 0)
  (0, ((r56l0 (1000 + x3.length + (x2.size)) x0 x1 x2 ((x0 : Nat) : Int) 0 x3).2))
  (cond (Nat.beq ((r56l0 (1000 + x3.length + (x2.size)) x0 x1 x2 ((x0 : Nat) : Int) 0 x3).1) 1)
  (0, (-1))
  (1, 0))
noncomputable def a56 (x0 x1 : Nat) (x2 : ByteArray) (x3 : List ByteArray) (p : Nat × Int) : Res := firstT [((Nat.beq (p.1) 0), .int .i64 (p.2), ⟨[⟨true, (some (.strs x3))⟩], 1, []⟩)]
noncomputable def w56 (x0 x1 : Nat) (x2 : ByteArray) (x3 : List ByteArray) : Res :=
 (cond (Nat.beq ((r56l0 (1000 + x3.length + (x2.size)) x0 x1 x2 ((x0 : Nat) : Int) 0 x3).1) 0)
 (a56 x0 x1 x2 x3 (0, ((r56l0 (1000 + x3.length + (x2.size)) x0 x1 x2 ((x0 : Nat) : Int) 0 x3).2)))
 (cond (Nat.beq ((r56l0 (1000 + x3.length + (x2.size)) x0 x1 x2 ((x0 : Nat) : Int) 0 x3).1) 1)
  (a56 x0 x1 x2 x3 (0, (-1)))
  none))
set_option maxRecDepth 100000 in
set_option maxHeartbeats 4000000 in
theorem e56 (x0 x1 : Nat) (x2 : ByteArray) (x3 : List ByteArray) : evFn Try.prog ext T41 L56_1 200 Try.f56 [.slice (some ⟨0, 0, some 0⟩) x0 x1, .string x2] ⟨[⟨true, (some (.strs x3))⟩], 1, []⟩ = firstT [((Nat.beq ((r56 x0 x1 x2 x3).1) 0), .int .i64 ((r56 x0 x1 x2 x3).2), ⟨[⟨true, (some (.strs x3))⟩], 1, []⟩)] :=
 (show evFn Try.prog ext T41 L56_1 200 Try.f56 [.slice (some ⟨0, 0, some 0⟩) x0 x1, .string x2] ⟨[⟨true, (some (.strs x3))⟩], 1, []⟩ = w56 x0 x1 x2 x3 from by kernel_rfl).trans
 (show w56 x0 x1 x2 x3 = a56 x0 x1 x2 x3 (r56 x0 x1 x2 x3) from by unfold w56 r56; exact (cond_app (a56 x0 x1 x2 x3) _ rfl (cond_app (a56 x0 x1 x2 x3) _ rfl rfl)))
noncomputable def s56 (args : List Value) (s : St) : List (Bool × Value × St) :=
 match args, s.h with
 | [.slice (some ⟨f0, f1, some f2⟩) x0 x1, .string x2], [⟨true, some (.strs x3)⟩] => if f0 = 0 ∧ f1 = 0 ∧ f2 = 0 then [((Nat.beq ((r56 x0 x1 x2 x3).1) 0), .int .i64 ((r56 x0 x1 x2 x3).2), ⟨[⟨true, (some (.strs x3))⟩], 1, []⟩)] else T41 56 args s
 | _, _ => T41 56 args s
noncomputable def T42 : CallF := addF T41 56 s56
set_option maxRecDepth 100000 in
set_option maxHeartbeats 4000000 in
theorem ok42 : CfOk Try.prog T42 := by
  refine cfOk_add ok41 fun args s r s' h1 h2 h3 => ?_
  unfold s56 at h3; split at h3
  · rename_i h; split at h3
    · rename_i hc; obtain ⟨rfl, rfl, rfl⟩ := hc; exact callOk ok41 Try.func56 h1 h2 h lok56_1.body (e56 _ _ _ _) rfl h3
    · exact ok41 _ _ _ _ _ h1 h2 h3
  · exact ok41 _ _ _ _ _ h1 h2 h3

/-- slices.Contains[[]string,string] -/
noncomputable def r50 (x0 x1 : Nat) (x2 : ByteArray) (x3 : List ByteArray) : Nat × Bool :=
 cond (Nat.beq ((r56 x0 x1 x2 x3).1) 0)
  (0, (decide ((((r56 x0 x1 x2 x3).2) : Int) ≥ 0)))
  (1, false)
noncomputable def a50 (x0 x1 : Nat) (x2 : ByteArray) (x3 : List ByteArray) (p : Nat × Bool) : Res := firstT [((Nat.beq (p.1) 0), .bool (p.2), ⟨[⟨true, (some (.strs x3))⟩], 1, []⟩)]
noncomputable def w50 (x0 x1 : Nat) (x2 : ByteArray) (x3 : List ByteArray) : Res :=
 (cond (Nat.beq ((r56 x0 x1 x2 x3).1) 0)
 (a50 x0 x1 x2 x3 (0, (decide ((((r56 x0 x1 x2 x3).2) : Int) ≥ 0))))
 none)
set_option maxRecDepth 100000 in
set_option maxHeartbeats 4000000 in
theorem e50 (x0 x1 : Nat) (x2 : ByteArray) (x3 : List ByteArray) : evFn Try.prog ext T42 noL 200 Try.f50 [.slice (some ⟨0, 0, some 0⟩) x0 x1, .string x2] ⟨[⟨true, (some (.strs x3))⟩], 1, []⟩ = firstT [((Nat.beq ((r50 x0 x1 x2 x3).1) 0), .bool ((r50 x0 x1 x2 x3).2), ⟨[⟨true, (some (.strs x3))⟩], 1, []⟩)] :=
 (show evFn Try.prog ext T42 noL 200 Try.f50 [.slice (some ⟨0, 0, some 0⟩) x0 x1, .string x2] ⟨[⟨true, (some (.strs x3))⟩], 1, []⟩ = w50 x0 x1 x2 x3 from by kernel_rfl).trans
 (show w50 x0 x1 x2 x3 = a50 x0 x1 x2 x3 (r50 x0 x1 x2 x3) from by unfold w50 r50; exact (cond_app (a50 x0 x1 x2 x3) _ rfl rfl))
noncomputable def s50 (args : List Value) (s : St) : List (Bool × Value × St) :=
 match args, s.h with
 | [.slice (some ⟨f0, f1, some f2⟩) x0 x1, .string x2], [⟨true, some (.strs x3)⟩] => if f0 = 0 ∧ f1 = 0 ∧ f2 = 0 then [((Nat.beq ((r50 x0 x1 x2 x3).1) 0), .bool ((r50 x0 x1 x2 x3).2), ⟨[⟨true, (some (.strs x3))⟩], 1, []⟩)] else T42 50 args s
 | _, _ => T42 50 args s
noncomputable def T43 : CallF := addF T42 50 s50
set_option maxRecDepth 100000 in
set_option maxHeartbeats 4000000 in
theorem ok43 : CfOk Try.prog T43 := by
  refine cfOk_add ok42 fun args s r s' h1 h2 h3 => ?_
  unfold s50 at h3; split at h3
  · rename_i h; split at h3
    · rename_i hc; obtain ⟨rfl, rfl, rfl⟩ := hc; exact callOk ok42 Try.func50 h1 h2 h (lfOkF_no _ _).body (e50 _ _ _ _) rfl h3
    · exact ok42 _ _ _ _ _ h1 h2 h3
  · exact ok42 _ _ _ _ _ h1 h2 h3
end Go.Proofs.Ytfclciebpnnieaa
