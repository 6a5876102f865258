/- What the functions that the statements reach answer, part 8. -/
import Derived.Test.YtfclciebpnnieaaNi7
namespace Go.Proofs.Ytfclciebpnnieaa
open Go.Ab
set_option maxHeartbeats 4000000
set_option maxRecDepth 100000

/-- impl.NarrowInput -/
noncomputable def r37 (x0 x1 x2 x3 x4 x5 x6 x7 : Nat) (x8 : Int) (x9 : ByteArray) (x10 x11 : Nat) (x12 : Int) (x13 : List ByteArray) (x14 : List (List Int)) : Nat × Nat × Nat × Int :=
 let c748 := (r37l0 (1000 + x14.length + x13.length + 0) x8 x12 ((r56b x9 x13).2) x12 0 x0 x1 x2 x3 x4 x5 x6 x7 x10 x11 0 0 x0 x1 ([] : List (List Int)) x13 x14)
 let c752 := (r37l1 (1000 + x14.length + x13.length + ((((c748.2).drop 0).take ((c748.2).length)) ++ ([[((x1 : Nat) : Int)]] : List (List Int))).length) x8 x12 ((r56b x9 x13).2) x12 0 x0 x1 x2 x3 x4 x5 x6 x7 x10 x11 0 0 ((((c748.2).drop 0).take ((c748.2).length)) ++ ([[((x1 : Nat) : Int)]] : List (List Int))) x13 x14)
 let c1115 := (r37l2 (1000 + x14.length + x13.length + ((((c748.2).drop 0).take ((c748.2).length)) ++ ([[((x1 : Nat) : Int)]] : List (List Int))).length) x8 ((r56b x9 x13).2) 0 0 0 0 x12 0 x0 x1 x2 x3 x4 x5 x6 x7 x10 x11 0 0 ((((c748.2).drop 0).take ((c748.2).length)) ++ ([[((x1 : Nat) : Int)]] : List (List Int))) x13 x14)
 let c1116 := (r37l1 (1000 + x14.length + x13.length + 1) x8 x12 ((r56b x9 x13).2) x12 0 x0 x1 x2 x3 x4 x5 x6 x7 x10 x11 0 0 ([[((x1 : Nat) : Int)]] : List (List Int)) x13 x14)
 let c1117 := (r37l2 (1000 + x14.length + x13.length + 1) x8 ((r56b x9 x13).2) 0 0 0 0 x12 0 x0 x1 x2 x3 x4 x5 x6 x7 x10 x11 0 0 ([[((x1 : Nat) : Int)]] : List (List Int)) x13 x14)
 let c1118 := (r37l0 (1000 + x14.length + x13.length + 0) x8 x12 ((r56b x9 x13).2) x12 0 x0 x1 x2 x3 x4 x5 x6 x7 x10 x11 0 0 x1 x2 ([] : List (List Int)) x13 x14)
 let c1120 := (r37l1 (1000 + x14.length + x13.length + ((((c1118.2).drop 0).take ((c1118.2).length)) ++ ([[((x2 : Nat) : Int)]] : List (List Int))).length) x8 x12 ((r56b x9 x13).2) x12 0 x0 x1 x2 x3 x4 x5 x6 x7 x10 x11 0 0 ((((c1118.2).drop 0).take ((c1118.2).length)) ++ ([[((x2 : Nat) : Int)]] : List (List Int))) x13 x14)
 let c1304 := (r37l2 (1000 + x14.length + x13.length + ((((c1118.2).drop 0).take ((c1118.2).length)) ++ ([[((x2 : Nat) : Int)]] : List (List Int))).length) x8 ((r56b x9 x13).2) 0 0 0 0 x12 0 x0 x1 x2 x3 x4 x5 x6 x7 x10 x11 0 0 ((((c1118.2).drop 0).take ((c1118.2).length)) ++ ([[((x2 : Nat) : Int)]] : List (List Int))) x13 x14)
 let c1305 := (r37l1 (1000 + x14.length + x13.length + 1) x8 x12 ((r56b x9 x13).2) x12 0 x0 x1 x2 x3 x4 x5 x6 x7 x10 x11 0 0 ([[((x2 : Nat) : Int)]] : List (List Int)) x13 x14)
 let c1306 := (r37l2 (1000 + x14.length + x13.length + 1) x8 ((r56b x9 x13).2) 0 0 0 0 x12 0 x0 x1 x2 x3 x4 x5 x6 x7 x10 x11 0 0 ([[((x2 : Nat) : Int)]] : List (List Int)) x13 x14)
 let c1307 := (r37l0 (1000 + x14.length + x13.length + 0) x8 x12 ((r56b x9 x13).2) x12 0 x0 x1 x2 x3 x4 x5 x6 x7 x10 x11 0 0 x2 x3 ([] : List (List Int)) x13 x14)
 let c1309 := (r37l1 (1000 + x14.length + x13.length + ((((c1307.2).drop 0).take ((c1307.2).length)) ++ ([[((x3 : Nat) : Int)]] : List (List Int))).length) x8 x12 ((r56b x9 x13).2) x12 0 x0 x1 x2 x3 x4 x5 x6 x7 x10 x11 0 0 ((((c1307.2).drop 0).take ((c1307.2).length)) ++ ([[((x3 : Nat) : Int)]] : List (List Int))) x13 x14)
 let c1493 := (r37l2 (1000 + x14.length + x13.length + ((((c1307.2).drop 0).take ((c1307.2).length)) ++ ([[((x3 : Nat) : Int)]] : List (List Int))).length) x8 ((r56b x9 x13).2) 0 0 0 0 x12 0 x0 x1 x2 x3 x4 x5 x6 x7 x10 x11 0 0 ((((c1307.2).drop 0).take ((c1307.2).length)) ++ ([[((x3 : Nat) : Int)]] : List (List Int))) x13 x14)
 let c1494 := (r37l1 (1000 + x14.length + x13.length + 1) x8 x12 ((r56b x9 x13).2) x12 0 x0 x1 x2 x3 x4 x5 x6 x7 x10 x11 0 0 ([[((x3 : Nat) : Int)]] : List (List Int)) x13 x14)
 let c1495 := (r37l2 (1000 + x14.length + x13.length + 1) x8 ((r56b x9 x13).2) 0 0 0 0 x12 0 x0 x1 x2 x3 x4 x5 x6 x7 x10 x11 0 0 ([[((x3 : Nat) : Int)]] : List (List Int)) x13 x14)
 let c1496 := (r37l0 (1000 + x14.length + x13.length + 0) x8 x12 ((r56b x9 x13).2) x12 0 x0 x1 x2 x3 x4 x5 x6 x7 x10 x11 0 0 x3 x4 ([] : List (List Int)) x13 x14)
 let c1498 := (r37l1 (1000 + x14.length + x13.length + ((((c1496.2).drop 0).take ((c1496.2).length)) ++ ([[((x4 : Nat) : Int)]] : List (List Int))).length) x8 x12 ((r56b x9 x13).2) x12 0 x0 x1 x2 x3 x4 x5 x6 x7 x10 x11 0 0 ((((c1496.2).drop 0).take ((c1496.2).length)) ++ ([[((x4 : Nat) : Int)]] : List (List Int))) x13 x14)
 let c1682 := (r37l2 (1000 + x14.length + x13.length + ((((c1496.2).drop 0).take ((c1496.2).length)) ++ ([[((x4 : Nat) : Int)]] : List (List Int))).length) x8 ((r56b x9 x13).2) 0 0 0 0 x12 0 x0 x1 x2 x3 x4 x5 x6 x7 x10 x11 0 0 ((((c1496.2).drop 0).take ((c1496.2).length)) ++ ([[((x4 : Nat) : Int)]] : List (List Int))) x13 x14)
 let c1683 := (r37l1 (1000 + x14.length + x13.length + 1) x8 x12 ((r56b x9 x13).2) x12 0 x0 x1 x2 x3 x4 x5 x6 x7 x10 x11 0 0 ([[((x4 : Nat) : Int)]] : List (List Int)) x13 x14)
 let c1684 := (r37l2 (1000 + x14.length + x13.length + 1) x8 ((r56b x9 x13).2) 0 0 0 0 x12 0 x0 x1 x2 x3 x4 x5 x6 x7 x10 x11 0 0 ([[((x4 : Nat) : Int)]] : List (List Int)) x13 x14)
 let c1685 := (r37l0 (1000 + x14.length + x13.length + 0) x8 x12 ((r56b x9 x13).2) x12 0 x0 x1 x2 x3 x4 x5 x6 x7 x10 x11 0 0 x4 x5 ([] : List (List Int)) x13 x14)
 let c1687 := (r37l1 (1000 + x14.length + x13.length + ((((c1685.2).drop 0).take ((c1685.2).length)) ++ ([[((x5 : Nat) : Int)]] : List (List Int))).length) x8 x12 ((r56b x9 x13).2) x12 0 x0 x1 x2 x3 x4 x5 x6 x7 x10 x11 0 0 ((((c1685.2).drop 0).take ((c1685.2).length)) ++ ([[((x5 : Nat) : Int)]] : List (List Int))) x13 x14)
 let c1871 := (r37l2 (1000 + x14.length + x13.length + ((((c1685.2).drop 0).take ((c1685.2).length)) ++ ([[((x5 : Nat) : Int)]] : List (List Int))).length) x8 ((r56b x9 x13).2) 0 0 0 0 x12 0 x0 x1 x2 x3 x4 x5 x6 x7 x10 x11 0 0 ((((c1685.2).drop 0).take ((c1685.2).length)) ++ ([[((x5 : Nat) : Int)]] : List (List Int))) x13 x14)
 let c1872 := (r37l1 (1000 + x14.length + x13.length + 1) x8 x12 ((r56b x9 x13).2) x12 0 x0 x1 x2 x3 x4 x5 x6 x7 x10 x11 0 0 ([[((x5 : Nat) : Int)]] : List (List Int)) x13 x14)
 let c1873 := (r37l2 (1000 + x14.length + x13.length + 1) x8 ((r56b x9 x13).2) 0 0 0 0 x12 0 x0 x1 x2 x3 x4 x5 x6 x7 x10 x11 0 0 ([[((x5 : Nat) : Int)]] : List (List Int)) x13 x14)
 let c1874 := (r37l0 (1000 + x14.length + x13.length + 0) x8 x12 ((r56b x9 x13).2) x12 0 x0 x1 x2 x3 x4 x5 x6 x7 x10 x11 0 0 x5 x6 ([] : List (List Int)) x13 x14)
 let c1876 := (r37l1 (1000 + x14.length + x13.length + ((((c1874.2).drop 0).take ((c1874.2).length)) ++ ([[((x6 : Nat) : Int)]] : List (List Int))).length) x8 x12 ((r56b x9 x13).2) x12 0 x0 x1 x2 x3 x4 x5 x6 x7 x10 x11 0 0 ((((c1874.2).drop 0).take ((c1874.2).length)) ++ ([[((x6 : Nat) : Int)]] : List (List Int))) x13 x14)
 let c2060 := (r37l2 (1000 + x14.length + x13.length + ((((c1874.2).drop 0).take ((c1874.2).length)) ++ ([[((x6 : Nat) : Int)]] : List (List Int))).length) x8 ((r56b x9 x13).2) 0 0 0 0 x12 0 x0 x1 x2 x3 x4 x5 x6 x7 x10 x11 0 0 ((((c1874.2).drop 0).take ((c1874.2).length)) ++ ([[((x6 : Nat) : Int)]] : List (List Int))) x13 x14)
 let c2061 := (r37l1 (1000 + x14.length + x13.length + 1) x8 x12 ((r56b x9 x13).2) x12 0 x0 x1 x2 x3 x4 x5 x6 x7 x10 x11 0 0 ([[((x6 : Nat) : Int)]] : List (List Int)) x13 x14)
 let c2062 := (r37l2 (1000 + x14.length + x13.length + 1) x8 ((r56b x9 x13).2) 0 0 0 0 x12 0 x0 x1 x2 x3 x4 x5 x6 x7 x10 x11 0 0 ([[((x6 : Nat) : Int)]] : List (List Int)) x13 x14)
 let c2063 := (r37l0 (1000 + x14.length + x13.length + 0) x8 x12 ((r56b x9 x13).2) x12 0 x0 x1 x2 x3 x4 x5 x6 x7 x10 x11 0 0 x6 x7 ([] : List (List Int)) x13 x14)
 let c2065 := (r37l1 (1000 + x14.length + x13.length + ((((c2063.2).drop 0).take ((c2063.2).length)) ++ ([[((x7 : Nat) : Int)]] : List (List Int))).length) x8 x12 ((r56b x9 x13).2) x12 0 x0 x1 x2 x3 x4 x5 x6 x7 x10 x11 0 0 ((((c2063.2).drop 0).take ((c2063.2).length)) ++ ([[((x7 : Nat) : Int)]] : List (List Int))) x13 x14)
 let c2249 := (r37l2 (1000 + x14.length + x13.length + ((((c2063.2).drop 0).take ((c2063.2).length)) ++ ([[((x7 : Nat) : Int)]] : List (List Int))).length) x8 ((r56b x9 x13).2) 0 0 0 0 x12 0 x0 x1 x2 x3 x4 x5 x6 x7 x10 x11 0 0 ((((c2063.2).drop 0).take ((c2063.2).length)) ++ ([[((x7 : Nat) : Int)]] : List (List Int))) x13 x14)
 let c2250 := (r37l1 (1000 + x14.length + x13.length + 1) x8 x12 ((r56b x9 x13).2) x12 0 x0 x1 x2 x3 x4 x5 x6 x7 x10 x11 0 0 ([[((x7 : Nat) : Int)]] : List (List Int)) x13 x14)
 let c2251 := (r37l2 (1000 + x14.length + x13.length + 1) x8 ((r56b x9 x13).2) 0 0 0 0 x12 0 x0 x1 x2 x3 x4 x5 x6 x7 x10 x11 0 0 ([[((x7 : Nat) : Int)]] : List (List Int)) x13 x14)
 cond (Nat.beq ((r16 x13 x14).1) 0)
  (cond (!((r16 x13 x14).2))
  (0, 0, 0, 1)
  (cond (!(r63 x10 x11))
  (0, 0, 0, 1)
  (cond (!(r64 x0 x1 x2 x3 x4 x5 x6 x7))
  (0, 0, 0, 2)
  (cond (decide ((x8 : Int) < 0))
  (0, 0, 0, 2)
  (cond (decide ((x8 : Int) ≥ 4))
  (0, 0, 0, 2)
  (cond (decide ((x12 : Int) < 1))
  (0, 0, 0, 2)
  (cond (decide ((x12 : Int) > 64))
  (0, 0, 0, 2)
  (cond (Nat.beq ((r56b x9 x13).1) 0)
  (cond (decide ((((r56b x9 x13).2) : Int) < 0))
  (0, 0, 0, 6)
  (cond ((decide ((0 : Int) ≤ x8)) && (Nat.blt (Int.toNat x8) 4))
  (cond (Nat.beq (0 + (Int.toNat x8) * 2) 0)
  (cond (Nat.beq (c748.1) 0)
  (cond (Nat.ble (((c748.2).length + 1) * 5) 140737488355328)
  (cond (Nat.beq c752 0)
  (0, 0, 0, 4)
  (cond (Nat.beq c752 1)
  (cond (Nat.beq (c1115.1) 0)
  (cond (((c1115.2.2.2.1) : Int) == 0)
  (0, 0, 0, 6)
  (cond ((decide ((0 : Int) ≤ (c1115.2.2.1))) && (Nat.blt (Int.toNat (c1115.2.2.1)) (((((c748.2).drop 0).take ((c748.2).length)) ++ ([[((x1 : Nat) : Int)]] : List (List Int))).length)))
  (cond ((decide ((0 : Int) ≤ (c1115.2.1))) && (Nat.blt (Int.toNat (c1115.2.1)) (((((c748.2).drop 0).take ((c748.2).length)) ++ ([[((x1 : Nat) : Int)]] : List (List Int))).length)))
  (0, (Int.toNat ((((((c748.2).drop 0).take ((c748.2).length)) ++ ([[((x1 : Nat) : Int)]] : List (List Int))).getD (Int.toNat (c1115.2.2.1)) []).getD 0 0)), (Int.toNat ((((((c748.2).drop 0).take ((c748.2).length)) ++ ([[((x1 : Nat) : Int)]] : List (List Int))).getD (Int.toNat (c1115.2.1)) []).getD 0 0)), 0)
  (1, 0, 0, 0))
  (1, 0, 0, 0)))
  (1, 0, 0, 0))
  (1, 0, 0, 0)))
  (1, 0, 0, 0))
  (cond (Nat.beq (c748.1) 1)
  (cond (Nat.beq c1116 0)
  (0, 0, 0, 4)
  (cond (Nat.beq c1116 1)
  (cond (Nat.beq (c1117.1) 0)
  (cond (((c1117.2.2.2.1) : Int) == 0)
  (0, 0, 0, 6)
  (cond ((decide ((0 : Int) ≤ (c1117.2.2.1))) && (Nat.blt (Int.toNat (c1117.2.2.1)) 1))
  (cond ((decide ((0 : Int) ≤ (c1117.2.1))) && (Nat.blt (Int.toNat (c1117.2.1)) 1))
  (0, (Int.toNat ((([[((x1 : Nat) : Int)]] : List (List Int)).getD (Int.toNat (c1117.2.2.1)) []).getD 0 0)), (Int.toNat ((([[((x1 : Nat) : Int)]] : List (List Int)).getD (Int.toNat (c1117.2.1)) []).getD 0 0)), 0)
  (1, 0, 0, 0))
  (1, 0, 0, 0)))
  (1, 0, 0, 0))
  (1, 0, 0, 0)))
  (1, 0, 0, 0)))
  (cond (Nat.beq (0 + (Int.toNat x8) * 2) 1)
  (cond (Nat.beq (c1118.1) 0)
  (cond (Nat.ble (((c1118.2).length + 1) * 5) 140737488355328)
  (cond (Nat.beq c1120 0)
  (0, 0, 0, 4)
  (cond (Nat.beq c1120 1)
  (cond (Nat.beq (c1304.1) 0)
  (cond (((c1304.2.2.2.1) : Int) == 0)
  (0, 0, 0, 6)
  (cond ((decide ((0 : Int) ≤ (c1304.2.2.1))) && (Nat.blt (Int.toNat (c1304.2.2.1)) (((((c1118.2).drop 0).take ((c1118.2).length)) ++ ([[((x2 : Nat) : Int)]] : List (List Int))).length)))
  (cond ((decide ((0 : Int) ≤ (c1304.2.1))) && (Nat.blt (Int.toNat (c1304.2.1)) (((((c1118.2).drop 0).take ((c1118.2).length)) ++ ([[((x2 : Nat) : Int)]] : List (List Int))).length)))
  (0, (Int.toNat ((((((c1118.2).drop 0).take ((c1118.2).length)) ++ ([[((x2 : Nat) : Int)]] : List (List Int))).getD (Int.toNat (c1304.2.2.1)) []).getD 0 0)), (Int.toNat ((((((c1118.2).drop 0).take ((c1118.2).length)) ++ ([[((x2 : Nat) : Int)]] : List (List Int))).getD (Int.toNat (c1304.2.1)) []).getD 0 0)), 0)
  (1, 0, 0, 0))
  (1, 0, 0, 0)))
  (1, 0, 0, 0))
  (1, 0, 0, 0)))
  (1, 0, 0, 0))
  (cond (Nat.beq (c1118.1) 1)
  (cond (Nat.beq c1305 0)
  (0, 0, 0, 4)
  (cond (Nat.beq c1305 1)
  (cond (Nat.beq (c1306.1) 0)
  (cond (((c1306.2.2.2.1) : Int) == 0)
  (0, 0, 0, 6)
  (cond ((decide ((0 : Int) ≤ (c1306.2.2.1))) && (Nat.blt (Int.toNat (c1306.2.2.1)) 1))
  (cond ((decide ((0 : Int) ≤ (c1306.2.1))) && (Nat.blt (Int.toNat (c1306.2.1)) 1))
  (0, (Int.toNat ((([[((x2 : Nat) : Int)]] : List (List Int)).getD (Int.toNat (c1306.2.2.1)) []).getD 0 0)), (Int.toNat ((([[((x2 : Nat) : Int)]] : List (List Int)).getD (Int.toNat (c1306.2.1)) []).getD 0 0)), 0)
  (1, 0, 0, 0))
  (1, 0, 0, 0)))
  (1, 0, 0, 0))
  (1, 0, 0, 0)))
  (1, 0, 0, 0)))
  (cond (Nat.beq (0 + (Int.toNat x8) * 2) 2)
  (cond (Nat.beq (c1307.1) 0)
  (cond (Nat.ble (((c1307.2).length + 1) * 5) 140737488355328)
  (cond (Nat.beq c1309 0)
  (0, 0, 0, 4)
  (cond (Nat.beq c1309 1)
  (cond (Nat.beq (c1493.1) 0)
  (cond (((c1493.2.2.2.1) : Int) == 0)
  (0, 0, 0, 6)
  (cond ((decide ((0 : Int) ≤ (c1493.2.2.1))) && (Nat.blt (Int.toNat (c1493.2.2.1)) (((((c1307.2).drop 0).take ((c1307.2).length)) ++ ([[((x3 : Nat) : Int)]] : List (List Int))).length)))
  (cond ((decide ((0 : Int) ≤ (c1493.2.1))) && (Nat.blt (Int.toNat (c1493.2.1)) (((((c1307.2).drop 0).take ((c1307.2).length)) ++ ([[((x3 : Nat) : Int)]] : List (List Int))).length)))
  (0, (Int.toNat ((((((c1307.2).drop 0).take ((c1307.2).length)) ++ ([[((x3 : Nat) : Int)]] : List (List Int))).getD (Int.toNat (c1493.2.2.1)) []).getD 0 0)), (Int.toNat ((((((c1307.2).drop 0).take ((c1307.2).length)) ++ ([[((x3 : Nat) : Int)]] : List (List Int))).getD (Int.toNat (c1493.2.1)) []).getD 0 0)), 0)
  (1, 0, 0, 0))
  (1, 0, 0, 0)))
  (1, 0, 0, 0))
  (1, 0, 0, 0)))
  (1, 0, 0, 0))
  (cond (Nat.beq (c1307.1) 1)
  (cond (Nat.beq c1494 0)
  (0, 0, 0, 4)
  (cond (Nat.beq c1494 1)
  (cond (Nat.beq (c1495.1) 0)
  (cond (((c1495.2.2.2.1) : Int) == 0)
  (0, 0, 0, 6)
  (cond ((decide ((0 : Int) ≤ (c1495.2.2.1))) && (Nat.blt (Int.toNat (c1495.2.2.1)) 1))
  (cond ((decide ((0 : Int) ≤ (c1495.2.1))) && (Nat.blt (Int.toNat (c1495.2.1)) 1))
  (0, (Int.toNat ((([[((x3 : Nat) : Int)]] : List (List Int)).getD (Int.toNat (c1495.2.2.1)) []).getD 0 0)), (Int.toNat ((([[((x3 : Nat) : Int)]] : List (List Int)).getD (Int.toNat (c1495.2.1)) []).getD 0 0)), 0)
  (1, 0, 0, 0))
  (1, 0, 0, 0)))
  (1, 0, 0, 0))
  (1, 0, 0, 0)))
  (1, 0, 0, 0)))
  (cond (Nat.beq (0 + (Int.toNat x8) * 2) 3)
  (cond (Nat.beq (c1496.1) 0)
  (cond (Nat.ble (((c1496.2).length + 1) * 5) 140737488355328)
  (cond (Nat.beq c1498 0)
  (0, 0, 0, 4)
  (cond (Nat.beq c1498 1)
  (cond (Nat.beq (c1682.1) 0)
  (cond (((c1682.2.2.2.1) : Int) == 0)
  (0, 0, 0, 6)
  (cond ((decide ((0 : Int) ≤ (c1682.2.2.1))) && (Nat.blt (Int.toNat (c1682.2.2.1)) (((((c1496.2).drop 0).take ((c1496.2).length)) ++ ([[((x4 : Nat) : Int)]] : List (List Int))).length)))
  (cond ((decide ((0 : Int) ≤ (c1682.2.1))) && (Nat.blt (Int.toNat (c1682.2.1)) (((((c1496.2).drop 0).take ((c1496.2).length)) ++ ([[((x4 : Nat) : Int)]] : List (List Int))).length)))
  (0, (Int.toNat ((((((c1496.2).drop 0).take ((c1496.2).length)) ++ ([[((x4 : Nat) : Int)]] : List (List Int))).getD (Int.toNat (c1682.2.2.1)) []).getD 0 0)), (Int.toNat ((((((c1496.2).drop 0).take ((c1496.2).length)) ++ ([[((x4 : Nat) : Int)]] : List (List Int))).getD (Int.toNat (c1682.2.1)) []).getD 0 0)), 0)
  (1, 0, 0, 0))
  (1, 0, 0, 0)))
  (1, 0, 0, 0))
  (1, 0, 0, 0)))
  (1, 0, 0, 0))
  (cond (Nat.beq (c1496.1) 1)
  (cond (Nat.beq c1683 0)
  (0, 0, 0, 4)
  (cond (Nat.beq c1683 1)
  (cond (Nat.beq (c1684.1) 0)
  (cond (((c1684.2.2.2.1) : Int) == 0)
  (0, 0, 0, 6)
  (cond ((decide ((0 : Int) ≤ (c1684.2.2.1))) && (Nat.blt (Int.toNat (c1684.2.2.1)) 1))
  (cond ((decide ((0 : Int) ≤ (c1684.2.1))) && (Nat.blt (Int.toNat (c1684.2.1)) 1))
  (0, (Int.toNat ((([[((x4 : Nat) : Int)]] : List (List Int)).getD (Int.toNat (c1684.2.2.1)) []).getD 0 0)), (Int.toNat ((([[((x4 : Nat) : Int)]] : List (List Int)).getD (Int.toNat (c1684.2.1)) []).getD 0 0)), 0)
  (1, 0, 0, 0))
  (1, 0, 0, 0)))
  (1, 0, 0, 0))
  (1, 0, 0, 0)))
  (1, 0, 0, 0)))
  (cond (Nat.beq (0 + (Int.toNat x8) * 2) 4)
  (cond (Nat.beq (c1685.1) 0)
  (cond (Nat.ble (((c1685.2).length + 1) * 5) 140737488355328)
  (cond (Nat.beq c1687 0)
  (0, 0, 0, 4)
  (cond (Nat.beq c1687 1)
  (cond (Nat.beq (c1871.1) 0)
  (cond (((c1871.2.2.2.1) : Int) == 0)
  (0, 0, 0, 6)
  (cond ((decide ((0 : Int) ≤ (c1871.2.2.1))) && (Nat.blt (Int.toNat (c1871.2.2.1)) (((((c1685.2).drop 0).take ((c1685.2).length)) ++ ([[((x5 : Nat) : Int)]] : List (List Int))).length)))
  (cond ((decide ((0 : Int) ≤ (c1871.2.1))) && (Nat.blt (Int.toNat (c1871.2.1)) (((((c1685.2).drop 0).take ((c1685.2).length)) ++ ([[((x5 : Nat) : Int)]] : List (List Int))).length)))
  (0, (Int.toNat ((((((c1685.2).drop 0).take ((c1685.2).length)) ++ ([[((x5 : Nat) : Int)]] : List (List Int))).getD (Int.toNat (c1871.2.2.1)) []).getD 0 0)), (Int.toNat ((((((c1685.2).drop 0).take ((c1685.2).length)) ++ ([[((x5 : Nat) : Int)]] : List (List Int))).getD (Int.toNat (c1871.2.1)) []).getD 0 0)), 0)
  (1, 0, 0, 0))
  (1, 0, 0, 0)))
  (1, 0, 0, 0))
  (1, 0, 0, 0)))
  (1, 0, 0, 0))
  (cond (Nat.beq (c1685.1) 1)
  (cond (Nat.beq c1872 0)
  (0, 0, 0, 4)
  (cond (Nat.beq c1872 1)
  (cond (Nat.beq (c1873.1) 0)
  (cond (((c1873.2.2.2.1) : Int) == 0)
  (0, 0, 0, 6)
  (cond ((decide ((0 : Int) ≤ (c1873.2.2.1))) && (Nat.blt (Int.toNat (c1873.2.2.1)) 1))
  (cond ((decide ((0 : Int) ≤ (c1873.2.1))) && (Nat.blt (Int.toNat (c1873.2.1)) 1))
  (0, (Int.toNat ((([[((x5 : Nat) : Int)]] : List (List Int)).getD (Int.toNat (c1873.2.2.1)) []).getD 0 0)), (Int.toNat ((([[((x5 : Nat) : Int)]] : List (List Int)).getD (Int.toNat (c1873.2.1)) []).getD 0 0)), 0)
  (1, 0, 0, 0))
  (1, 0, 0, 0)))
  (1, 0, 0, 0))
  (1, 0, 0, 0)))
  (1, 0, 0, 0)))
  (cond (Nat.beq (0 + (Int.toNat x8) * 2) 5)
  (cond (Nat.beq (c1874.1) 0)
  (cond (Nat.ble (((c1874.2).length + 1) * 5) 140737488355328)
  (cond (Nat.beq c1876 0)
  (0, 0, 0, 4)
  (cond (Nat.beq c1876 1)
  (cond (Nat.beq (c2060.1) 0)
  (cond (((c2060.2.2.2.1) : Int) == 0)
  (0, 0, 0, 6)
  (cond ((decide ((0 : Int) ≤ (c2060.2.2.1))) && (Nat.blt (Int.toNat (c2060.2.2.1)) (((((c1874.2).drop 0).take ((c1874.2).length)) ++ ([[((x6 : Nat) : Int)]] : List (List Int))).length)))
  (cond ((decide ((0 : Int) ≤ (c2060.2.1))) && (Nat.blt (Int.toNat (c2060.2.1)) (((((c1874.2).drop 0).take ((c1874.2).length)) ++ ([[((x6 : Nat) : Int)]] : List (List Int))).length)))
  (0, (Int.toNat ((((((c1874.2).drop 0).take ((c1874.2).length)) ++ ([[((x6 : Nat) : Int)]] : List (List Int))).getD (Int.toNat (c2060.2.2.1)) []).getD 0 0)), (Int.toNat ((((((c1874.2).drop 0).take ((c1874.2).length)) ++ ([[((x6 : Nat) : Int)]] : List (List Int))).getD (Int.toNat (c2060.2.1)) []).getD 0 0)), 0)
  (1, 0, 0, 0))
  (1, 0, 0, 0)))
  (1, 0, 0, 0))
  (1, 0, 0, 0)))
  (1, 0, 0, 0))
  (cond (Nat.beq (c1874.1) 1)
  (cond (Nat.beq c2061 0)
  (0, 0, 0, 4)
  (cond (Nat.beq c2061 1)
  (cond (Nat.beq (c2062.1) 0)
  (cond (((c2062.2.2.2.1) : Int) == 0)
  (0, 0, 0, 6)
  (cond ((decide ((0 : Int) ≤ (c2062.2.2.1))) && (Nat.blt (Int.toNat (c2062.2.2.1)) 1))
  (cond ((decide ((0 : Int) ≤ (c2062.2.1))) && (Nat.blt (Int.toNat (c2062.2.1)) 1))
  (0, (Int.toNat ((([[((x6 : Nat) : Int)]] : List (List Int)).getD (Int.toNat (c2062.2.2.1)) []).getD 0 0)), (Int.toNat ((([[((x6 : Nat) : Int)]] : List (List Int)).getD (Int.toNat (c2062.2.1)) []).getD 0 0)), 0)
  (1, 0, 0, 0))
  (1, 0, 0, 0)))
  (1, 0, 0, 0))
  (1, 0, 0, 0)))
  (1, 0, 0, 0)))
  (cond (Nat.beq (0 + (Int.toNat x8) * 2) 6)
  (cond (Nat.beq (c2063.1) 0)
  (cond (Nat.ble (((c2063.2).length + 1) * 5) 140737488355328)
  (cond (Nat.beq c2065 0)
  (0, 0, 0, 4)
  (cond (Nat.beq c2065 1)
  (cond (Nat.beq (c2249.1) 0)
  (cond (((c2249.2.2.2.1) : Int) == 0)
  (0, 0, 0, 6)
  (cond ((decide ((0 : Int) ≤ (c2249.2.2.1))) && (Nat.blt (Int.toNat (c2249.2.2.1)) (((((c2063.2).drop 0).take ((c2063.2).length)) ++ ([[((x7 : Nat) : Int)]] : List (List Int))).length)))
  (cond ((decide ((0 : Int) ≤ (c2249.2.1))) && (Nat.blt (Int.toNat (c2249.2.1)) (((((c2063.2).drop 0).take ((c2063.2).length)) ++ ([[((x7 : Nat) : Int)]] : List (List Int))).length)))
  (0, (Int.toNat ((((((c2063.2).drop 0).take ((c2063.2).length)) ++ ([[((x7 : Nat) : Int)]] : List (List Int))).getD (Int.toNat (c2249.2.2.1)) []).getD 0 0)), (Int.toNat ((((((c2063.2).drop 0).take ((c2063.2).length)) ++ ([[((x7 : Nat) : Int)]] : List (List Int))).getD (Int.toNat (c2249.2.1)) []).getD 0 0)), 0)
  (1, 0, 0, 0))
  (1, 0, 0, 0)))
  (1, 0, 0, 0))
  (1, 0, 0, 0)))
  (1, 0, 0, 0))
  (cond (Nat.beq (c2063.1) 1)
  (cond (Nat.beq c2250 0)
  (0, 0, 0, 4)
  (cond (Nat.beq c2250 1)
  (cond (Nat.beq (c2251.1) 0)
  (cond (((c2251.2.2.2.1) : Int) == 0)
  (0, 0, 0, 6)
  (cond ((decide ((0 : Int) ≤ (c2251.2.2.1))) && (Nat.blt (Int.toNat (c2251.2.2.1)) 1))
  (cond ((decide ((0 : Int) ≤ (c2251.2.1))) && (Nat.blt (Int.toNat (c2251.2.1)) 1))
  (0, (Int.toNat ((([[((x7 : Nat) : Int)]] : List (List Int)).getD (Int.toNat (c2251.2.2.1)) []).getD 0 0)), (Int.toNat ((([[((x7 : Nat) : Int)]] : List (List Int)).getD (Int.toNat (c2251.2.1)) []).getD 0 0)), 0)
  (1, 0, 0, 0))
  (1, 0, 0, 0)))
  (1, 0, 0, 0))
  (1, 0, 0, 0)))
  (1, 0, 0, 0)))
  (1, 0, 0, 0))))))))
  (1, 0, 0, 0)))
  (1, 0, 0, 0)))))))))
  (1, 0, 0, 0)
noncomputable def a37 (x0 x1 x2 x3 x4 x5 x6 x7 : Nat) (x8 : Int) (x9 : ByteArray) (x10 x11 : Nat) (x12 : Int) (x13 : List ByteArray) (x14 : List (List Int)) (p : Nat × Nat × Nat × Int) : Res := firstT [((Nat.beq (p.1) 0), .tuple #[.agg #[.float .f32 (p.2.1), .float .f32 (p.2.2.1)], .int .i64 (p.2.2.2)], ⟨[⟨true, (some (.strs x13))⟩, ⟨true, (some (.tab [.int .i8, .int .i16, .fl .f32] x14))⟩], 2, []⟩)]
noncomputable def w37 (x0 x1 x2 x3 x4 x5 x6 x7 : Nat) (x8 : Int) (x9 : ByteArray) (x10 x11 : Nat) (x12 : Int) (x13 : List ByteArray) (x14 : List (List Int)) : Res :=
 let c748 := (r37l0 (1000 + x14.length + x13.length + 0) x8 x12 ((r56b x9 x13).2) x12 0 x0 x1 x2 x3 x4 x5 x6 x7 x10 x11 0 0 x0 x1 ([] : List (List Int)) x13 x14)
 let c752 := (r37l1 (1000 + x14.length + x13.length + ((((c748.2).drop 0).take ((c748.2).length)) ++ ([[((x1 : Nat) : Int)]] : List (List Int))).length) x8 x12 ((r56b x9 x13).2) x12 0 x0 x1 x2 x3 x4 x5 x6 x7 x10 x11 0 0 ((((c748.2).drop 0).take ((c748.2).length)) ++ ([[((x1 : Nat) : Int)]] : List (List Int))) x13 x14)
 let c1115 := (r37l2 (1000 + x14.length + x13.length + ((((c748.2).drop 0).take ((c748.2).length)) ++ ([[((x1 : Nat) : Int)]] : List (List Int))).length) x8 ((r56b x9 x13).2) 0 0 0 0 x12 0 x0 x1 x2 x3 x4 x5 x6 x7 x10 x11 0 0 ((((c748.2).drop 0).take ((c748.2).length)) ++ ([[((x1 : Nat) : Int)]] : List (List Int))) x13 x14)
 let c1116 := (r37l1 (1000 + x14.length + x13.length + 1) x8 x12 ((r56b x9 x13).2) x12 0 x0 x1 x2 x3 x4 x5 x6 x7 x10 x11 0 0 ([[((x1 : Nat) : Int)]] : List (List Int)) x13 x14)
 let c1117 := (r37l2 (1000 + x14.length + x13.length + 1) x8 ((r56b x9 x13).2) 0 0 0 0 x12 0 x0 x1 x2 x3 x4 x5 x6 x7 x10 x11 0 0 ([[((x1 : Nat) : Int)]] : List (List Int)) x13 x14)
 let c1118 := (r37l0 (1000 + x14.length + x13.length + 0) x8 x12 ((r56b x9 x13).2) x12 0 x0 x1 x2 x3 x4 x5 x6 x7 x10 x11 0 0 x1 x2 ([] : List (List Int)) x13 x14)
 let c1120 := (r37l1 (1000 + x14.length + x13.length + ((((c1118.2).drop 0).take ((c1118.2).length)) ++ ([[((x2 : Nat) : Int)]] : List (List Int))).length) x8 x12 ((r56b x9 x13).2) x12 0 x0 x1 x2 x3 x4 x5 x6 x7 x10 x11 0 0 ((((c1118.2).drop 0).take ((c1118.2).length)) ++ ([[((x2 : Nat) : Int)]] : List (List Int))) x13 x14)
 let c1304 := (r37l2 (1000 + x14.length + x13.length + ((((c1118.2).drop 0).take ((c1118.2).length)) ++ ([[((x2 : Nat) : Int)]] : List (List Int))).length) x8 ((r56b x9 x13).2) 0 0 0 0 x12 0 x0 x1 x2 x3 x4 x5 x6 x7 x10 x11 0 0 ((((c1118.2).drop 0).take ((c1118.2).length)) ++ ([[((x2 : Nat) : Int)]] : List (List Int))) x13 x14)
 let c1305 := (r37l1 (1000 + x14.length + x13.length + 1) x8 x12 ((r56b x9 x13).2) x12 0 x0 x1 x2 x3 x4 x5 x6 x7 x10 x11 0 0 ([[((x2 : Nat) : Int)]] : List (List Int)) x13 x14)
 let c1306 := (r37l2 (1000 + x14.length + x13.length + 1) x8 ((r56b x9 x13).2) 0 0 0 0 x12 0 x0 x1 x2 x3 x4 x5 x6 x7 x10 x11 0 0 ([[((x2 : Nat) : Int)]] : List (List Int)) x13 x14)
 let c1307 := (r37l0 (1000 + x14.length + x13.length + 0) x8 x12 ((r56b x9 x13).2) x12 0 x0 x1 x2 x3 x4 x5 x6 x7 x10 x11 0 0 x2 x3 ([] : List (List Int)) x13 x14)
 let c1309 := (r37l1 (1000 + x14.length + x13.length + ((((c1307.2).drop 0).take ((c1307.2).length)) ++ ([[((x3 : Nat) : Int)]] : List (List Int))).length) x8 x12 ((r56b x9 x13).2) x12 0 x0 x1 x2 x3 x4 x5 x6 x7 x10 x11 0 0 ((((c1307.2).drop 0).take ((c1307.2).length)) ++ ([[((x3 : Nat) : Int)]] : List (List Int))) x13 x14)
 let c1493 := (r37l2 (1000 + x14.length + x13.length + ((((c1307.2).drop 0).take ((c1307.2).length)) ++ ([[((x3 : Nat) : Int)]] : List (List Int))).length) x8 ((r56b x9 x13).2) 0 0 0 0 x12 0 x0 x1 x2 x3 x4 x5 x6 x7 x10 x11 0 0 ((((c1307.2).drop 0).take ((c1307.2).length)) ++ ([[((x3 : Nat) : Int)]] : List (List Int))) x13 x14)
 let c1494 := (r37l1 (1000 + x14.length + x13.length + 1) x8 x12 ((r56b x9 x13).2) x12 0 x0 x1 x2 x3 x4 x5 x6 x7 x10 x11 0 0 ([[((x3 : Nat) : Int)]] : List (List Int)) x13 x14)
 let c1495 := (r37l2 (1000 + x14.length + x13.length + 1) x8 ((r56b x9 x13).2) 0 0 0 0 x12 0 x0 x1 x2 x3 x4 x5 x6 x7 x10 x11 0 0 ([[((x3 : Nat) : Int)]] : List (List Int)) x13 x14)
 let c1496 := (r37l0 (1000 + x14.length + x13.length + 0) x8 x12 ((r56b x9 x13).2) x12 0 x0 x1 x2 x3 x4 x5 x6 x7 x10 x11 0 0 x3 x4 ([] : List (List Int)) x13 x14)
 let c1498 := (r37l1 (1000 + x14.length + x13.length + ((((c1496.2).drop 0).take ((c1496.2).length)) ++ ([[((x4 : Nat) : Int)]] : List (List Int))).length) x8 x12 ((r56b x9 x13).2) x12 0 x0 x1 x2 x3 x4 x5 x6 x7 x10 x11 0 0 ((((c1496.2).drop 0).take ((c1496.2).length)) ++ ([[((x4 : Nat) : Int)]] : List (List Int))) x13 x14)
 let c1682 := (r37l2 (1000 + x14.length + x13.length + ((((c1496.2).drop 0).take ((c1496.2).length)) ++ ([[((x4 : Nat) : Int)]] : List (List Int))).length) x8 ((r56b x9 x13).2) 0 0 0 0 x12 0 x0 x1 x2 x3 x4 x5 x6 x7 x10 x11 0 0 ((((c1496.2).drop 0).take ((c1496.2).length)) ++ ([[((x4 : Nat) : Int)]] : List (List Int))) x13 x14)
 let c1683 := (r37l1 (1000 + x14.length + x13.length + 1) x8 x12 ((r56b x9 x13).2) x12 0 x0 x1 x2 x3 x4 x5 x6 x7 x10 x11 0 0 ([[((x4 : Nat) : Int)]] : List (List Int)) x13 x14)
 let c1684 := (r37l2 (1000 + x14.length + x13.length + 1) x8 ((r56b x9 x13).2) 0 0 0 0 x12 0 x0 x1 x2 x3 x4 x5 x6 x7 x10 x11 0 0 ([[((x4 : Nat) : Int)]] : List (List Int)) x13 x14)
 let c1685 := (r37l0 (1000 + x14.length + x13.length + 0) x8 x12 ((r56b x9 x13).2) x12 0 x0 x1 x2 x3 x4 x5 x6 x7 x10 x11 0 0 x4 x5 ([] : List (List Int)) x13 x14)
 let c1687 := (r37l1 (1000 + x14.length + x13.length + ((((c1685.2).drop 0).take ((c1685.2).length)) ++ ([[((x5 : Nat) : Int)]] : List (List Int))).length) x8 x12 ((r56b x9 x13).2) x12 0 x0 x1 x2 x3 x4 x5 x6 x7 x10 x11 0 0 ((((c1685.2).drop 0).take ((c1685.2).length)) ++ ([[((x5 : Nat) : Int)]] : List (List Int))) x13 x14)
 let c1871 := (r37l2 (1000 + x14.length + x13.length + ((((c1685.2).drop 0).take ((c1685.2).length)) ++ ([[((x5 : Nat) : Int)]] : List (List Int))).length) x8 ((r56b x9 x13).2) 0 0 0 0 x12 0 x0 x1 x2 x3 x4 x5 x6 x7 x10 x11 0 0 ((((c1685.2).drop 0).take ((c1685.2).length)) ++ ([[((x5 : Nat) : Int)]] : List (List Int))) x13 x14)
 let c1872 := (r37l1 (1000 + x14.length + x13.length + 1) x8 x12 ((r56b x9 x13).2) x12 0 x0 x1 x2 x3 x4 x5 x6 x7 x10 x11 0 0 ([[((x5 : Nat) : Int)]] : List (List Int)) x13 x14)
 let c1873 := (r37l2 (1000 + x14.length + x13.length + 1) x8 ((r56b x9 x13).2) 0 0 0 0 x12 0 x0 x1 x2 x3 x4 x5 x6 x7 x10 x11 0 0 ([[((x5 : Nat) : Int)]] : List (List Int)) x13 x14)
 let c1874 := (r37l0 (1000 + x14.length + x13.length + 0) x8 x12 ((r56b x9 x13).2) x12 0 x0 x1 x2 x3 x4 x5 x6 x7 x10 x11 0 0 x5 x6 ([] : List (List Int)) x13 x14)
 let c1876 := (r37l1 (1000 + x14.length + x13.length + ((((c1874.2).drop 0).take ((c1874.2).length)) ++ ([[((x6 : Nat) : Int)]] : List (List Int))).length) x8 x12 ((r56b x9 x13).2) x12 0 x0 x1 x2 x3 x4 x5 x6 x7 x10 x11 0 0 ((((c1874.2).drop 0).take ((c1874.2).length)) ++ ([[((x6 : Nat) : Int)]] : List (List Int))) x13 x14)
 let c2060 := (r37l2 (1000 + x14.length + x13.length + ((((c1874.2).drop 0).take ((c1874.2).length)) ++ ([[((x6 : Nat) : Int)]] : List (List Int))).length) x8 ((r56b x9 x13).2) 0 0 0 0 x12 0 x0 x1 x2 x3 x4 x5 x6 x7 x10 x11 0 0 ((((c1874.2).drop 0).take ((c1874.2).length)) ++ ([[((x6 : Nat) : Int)]] : List (List Int))) x13 x14)
 let c2061 := (r37l1 (1000 + x14.length + x13.length + 1) x8 x12 ((r56b x9 x13).2) x12 0 x0 x1 x2 x3 x4 x5 x6 x7 x10 x11 0 0 ([[((x6 : Nat) : Int)]] : List (List Int)) x13 x14)
 let c2062 := (r37l2 (1000 + x14.length + x13.length + 1) x8 ((r56b x9 x13).2) 0 0 0 0 x12 0 x0 x1 x2 x3 x4 x5 x6 x7 x10 x11 0 0 ([[((x6 : Nat) : Int)]] : List (List Int)) x13 x14)
 let c2063 := (r37l0 (1000 + x14.length + x13.length + 0) x8 x12 ((r56b x9 x13).2) x12 0 x0 x1 x2 x3 x4 x5 x6 x7 x10 x11 0 0 x6 x7 ([] : List (List Int)) x13 x14)
 let c2065 := (r37l1 (1000 + x14.length + x13.length + ((((c2063.2).drop 0).take ((c2063.2).length)) ++ ([[((x7 : Nat) : Int)]] : List (List Int))).length) x8 x12 ((r56b x9 x13).2) x12 0 x0 x1 x2 x3 x4 x5 x6 x7 x10 x11 0 0 ((((c2063.2).drop 0).take ((c2063.2).length)) ++ ([[((x7 : Nat) : Int)]] : List (List Int))) x13 x14)
 let c2249 := (r37l2 (1000 + x14.length + x13.length + ((((c2063.2).drop 0).take ((c2063.2).length)) ++ ([[((x7 : Nat) : Int)]] : List (List Int))).length) x8 ((r56b x9 x13).2) 0 0 0 0 x12 0 x0 x1 x2 x3 x4 x5 x6 x7 x10 x11 0 0 ((((c2063.2).drop 0).take ((c2063.2).length)) ++ ([[((x7 : Nat) : Int)]] : List (List Int))) x13 x14)
 let c2250 := (r37l1 (1000 + x14.length + x13.length + 1) x8 x12 ((r56b x9 x13).2) x12 0 x0 x1 x2 x3 x4 x5 x6 x7 x10 x11 0 0 ([[((x7 : Nat) : Int)]] : List (List Int)) x13 x14)
 let c2251 := (r37l2 (1000 + x14.length + x13.length + 1) x8 ((r56b x9 x13).2) 0 0 0 0 x12 0 x0 x1 x2 x3 x4 x5 x6 x7 x10 x11 0 0 ([[((x7 : Nat) : Int)]] : List (List Int)) x13 x14)
 (cond (Nat.beq ((r16 x13 x14).1) 0)
 (cond (!((r16 x13 x14).2))
  (a37 x0 x1 x2 x3 x4 x5 x6 x7 x8 x9 x10 x11 x12 x13 x14 (0, 0, 0, 1))
  (cond (!(r63 x10 x11))
  (a37 x0 x1 x2 x3 x4 x5 x6 x7 x8 x9 x10 x11 x12 x13 x14 (0, 0, 0, 1))
  (cond (!(r64 x0 x1 x2 x3 x4 x5 x6 x7))
  (a37 x0 x1 x2 x3 x4 x5 x6 x7 x8 x9 x10 x11 x12 x13 x14 (0, 0, 0, 2))
  (cond (decide ((x8 : Int) < 0))
  (a37 x0 x1 x2 x3 x4 x5 x6 x7 x8 x9 x10 x11 x12 x13 x14 (0, 0, 0, 2))
  (cond (decide ((x8 : Int) ≥ 4))
  (a37 x0 x1 x2 x3 x4 x5 x6 x7 x8 x9 x10 x11 x12 x13 x14 (0, 0, 0, 2))
  (cond (decide ((x12 : Int) < 1))
  (a37 x0 x1 x2 x3 x4 x5 x6 x7 x8 x9 x10 x11 x12 x13 x14 (0, 0, 0, 2))
  (cond (decide ((x12 : Int) > 64))
  (a37 x0 x1 x2 x3 x4 x5 x6 x7 x8 x9 x10 x11 x12 x13 x14 (0, 0, 0, 2))
  (cond (Nat.beq ((r56b x9 x13).1) 0)
  (cond (decide ((((r56b x9 x13).2) : Int) < 0))
  (a37 x0 x1 x2 x3 x4 x5 x6 x7 x8 x9 x10 x11 x12 x13 x14 (0, 0, 0, 6))
  (cond ((decide ((0 : Int) ≤ x8)) && (Nat.blt (Int.toNat x8) 4))
  (cond (Nat.beq (0 + (Int.toNat x8) * 2) 0)
  (cond (Nat.beq (c748.1) 0)
  (cond (Nat.ble (((c748.2).length + 1) * 5) 140737488355328)
  (cond (Nat.beq c752 0)
  (a37 x0 x1 x2 x3 x4 x5 x6 x7 x8 x9 x10 x11 x12 x13 x14 (0, 0, 0, 4))
  (cond (Nat.beq c752 1)
  (cond (Nat.beq (c1115.1) 0)
  (cond (((c1115.2.2.2.1) : Int) == 0)
  (a37 x0 x1 x2 x3 x4 x5 x6 x7 x8 x9 x10 x11 x12 x13 x14 (0, 0, 0, 6))
  (cond ((decide ((0 : Int) ≤ (c1115.2.2.1))) && (Nat.blt (Int.toNat (c1115.2.2.1)) (((((c748.2).drop 0).take ((c748.2).length)) ++ ([[((x1 : Nat) : Int)]] : List (List Int))).length)))
  (cond (Nat.blt (Int.toNat (c1115.2.2.1)) (((((c748.2).drop 0).take ((c748.2).length)) ++ ([[((x1 : Nat) : Int)]] : List (List Int))).length))
  (cond ((decide ((0 : Int) ≤ (c1115.2.1))) && (Nat.blt (Int.toNat (c1115.2.1)) (((((c748.2).drop 0).take ((c748.2).length)) ++ ([[((x1 : Nat) : Int)]] : List (List Int))).length)))
  (cond (Nat.blt (Int.toNat (c1115.2.1)) (((((c748.2).drop 0).take ((c748.2).length)) ++ ([[((x1 : Nat) : Int)]] : List (List Int))).length))
  (a37 x0 x1 x2 x3 x4 x5 x6 x7 x8 x9 x10 x11 x12 x13 x14 (0, (Int.toNat ((((((c748.2).drop 0).take ((c748.2).length)) ++ ([[((x1 : Nat) : Int)]] : List (List Int))).getD (Int.toNat (c1115.2.2.1)) []).getD 0 0)), (Int.toNat ((((((c748.2).drop 0).take ((c748.2).length)) ++ ([[((x1 : Nat) : Int)]] : List (List Int))).getD (Int.toNat (c1115.2.1)) []).getD 0 0)), 0))
  none)
  none)
  none)
  none))
  none)
  none))
  none)
  (cond (Nat.beq (c748.1) 1)
  (cond (Nat.beq c1116 0)
  (a37 x0 x1 x2 x3 x4 x5 x6 x7 x8 x9 x10 x11 x12 x13 x14 (0, 0, 0, 4))
  (cond (Nat.beq c1116 1)
  (cond (Nat.beq (c1117.1) 0)
  (cond (((c1117.2.2.2.1) : Int) == 0)
  (a37 x0 x1 x2 x3 x4 x5 x6 x7 x8 x9 x10 x11 x12 x13 x14 (0, 0, 0, 6))
  (cond ((decide ((0 : Int) ≤ (c1117.2.2.1))) && (Nat.blt (Int.toNat (c1117.2.2.1)) 1))
  (cond (Nat.blt (Int.toNat (c1117.2.2.1)) 1)
  (cond ((decide ((0 : Int) ≤ (c1117.2.1))) && (Nat.blt (Int.toNat (c1117.2.1)) 1))
  (cond (Nat.blt (Int.toNat (c1117.2.1)) 1)
  (a37 x0 x1 x2 x3 x4 x5 x6 x7 x8 x9 x10 x11 x12 x13 x14 (0, (Int.toNat ((([[((x1 : Nat) : Int)]] : List (List Int)).getD (Int.toNat (c1117.2.2.1)) []).getD 0 0)), (Int.toNat ((([[((x1 : Nat) : Int)]] : List (List Int)).getD (Int.toNat (c1117.2.1)) []).getD 0 0)), 0))
  none)
  none)
  none)
  none))
  none)
  none))
  none))
  (cond (Nat.beq (0 + (Int.toNat x8) * 2) 1)
  (cond (Nat.beq (c1118.1) 0)
  (cond (Nat.ble (((c1118.2).length + 1) * 5) 140737488355328)
  (cond (Nat.beq c1120 0)
  (a37 x0 x1 x2 x3 x4 x5 x6 x7 x8 x9 x10 x11 x12 x13 x14 (0, 0, 0, 4))
  (cond (Nat.beq c1120 1)
  (cond (Nat.beq (c1304.1) 0)
  (cond (((c1304.2.2.2.1) : Int) == 0)
  (a37 x0 x1 x2 x3 x4 x5 x6 x7 x8 x9 x10 x11 x12 x13 x14 (0, 0, 0, 6))
  (cond ((decide ((0 : Int) ≤ (c1304.2.2.1))) && (Nat.blt (Int.toNat (c1304.2.2.1)) (((((c1118.2).drop 0).take ((c1118.2).length)) ++ ([[((x2 : Nat) : Int)]] : List (List Int))).length)))
  (cond (Nat.blt (Int.toNat (c1304.2.2.1)) (((((c1118.2).drop 0).take ((c1118.2).length)) ++ ([[((x2 : Nat) : Int)]] : List (List Int))).length))
  (cond ((decide ((0 : Int) ≤ (c1304.2.1))) && (Nat.blt (Int.toNat (c1304.2.1)) (((((c1118.2).drop 0).take ((c1118.2).length)) ++ ([[((x2 : Nat) : Int)]] : List (List Int))).length)))
  (cond (Nat.blt (Int.toNat (c1304.2.1)) (((((c1118.2).drop 0).take ((c1118.2).length)) ++ ([[((x2 : Nat) : Int)]] : List (List Int))).length))
  (a37 x0 x1 x2 x3 x4 x5 x6 x7 x8 x9 x10 x11 x12 x13 x14 (0, (Int.toNat ((((((c1118.2).drop 0).take ((c1118.2).length)) ++ ([[((x2 : Nat) : Int)]] : List (List Int))).getD (Int.toNat (c1304.2.2.1)) []).getD 0 0)), (Int.toNat ((((((c1118.2).drop 0).take ((c1118.2).length)) ++ ([[((x2 : Nat) : Int)]] : List (List Int))).getD (Int.toNat (c1304.2.1)) []).getD 0 0)), 0))
  none)
  none)
  none)
  none))
  none)
  none))
  none)
  (cond (Nat.beq (c1118.1) 1)
  (cond (Nat.beq c1305 0)
  (a37 x0 x1 x2 x3 x4 x5 x6 x7 x8 x9 x10 x11 x12 x13 x14 (0, 0, 0, 4))
  (cond (Nat.beq c1305 1)
  (cond (Nat.beq (c1306.1) 0)
  (cond (((c1306.2.2.2.1) : Int) == 0)
  (a37 x0 x1 x2 x3 x4 x5 x6 x7 x8 x9 x10 x11 x12 x13 x14 (0, 0, 0, 6))
  (cond ((decide ((0 : Int) ≤ (c1306.2.2.1))) && (Nat.blt (Int.toNat (c1306.2.2.1)) 1))
  (cond (Nat.blt (Int.toNat (c1306.2.2.1)) 1)
  (cond ((decide ((0 : Int) ≤ (c1306.2.1))) && (Nat.blt (Int.toNat (c1306.2.1)) 1))
  (cond (Nat.blt (Int.toNat (c1306.2.1)) 1)
  (a37 x0 x1 x2 x3 x4 x5 x6 x7 x8 x9 x10 x11 x12 x13 x14 (0, (Int.toNat ((([[((x2 : Nat) : Int)]] : List (List Int)).getD (Int.toNat (c1306.2.2.1)) []).getD 0 0)), (Int.toNat ((([[((x2 : Nat) : Int)]] : List (List Int)).getD (Int.toNat (c1306.2.1)) []).getD 0 0)), 0))
  none)
  none)
  none)
  none))
  none)
  none))
  none))
  (cond (Nat.beq (0 + (Int.toNat x8) * 2) 2)
  (cond (Nat.beq (c1307.1) 0)
  (cond (Nat.ble (((c1307.2).length + 1) * 5) 140737488355328)
  (cond (Nat.beq c1309 0)
  (a37 x0 x1 x2 x3 x4 x5 x6 x7 x8 x9 x10 x11 x12 x13 x14 (0, 0, 0, 4))
  (cond (Nat.beq c1309 1)
  (cond (Nat.beq (c1493.1) 0)
  (cond (((c1493.2.2.2.1) : Int) == 0)
  (a37 x0 x1 x2 x3 x4 x5 x6 x7 x8 x9 x10 x11 x12 x13 x14 (0, 0, 0, 6))
  (cond ((decide ((0 : Int) ≤ (c1493.2.2.1))) && (Nat.blt (Int.toNat (c1493.2.2.1)) (((((c1307.2).drop 0).take ((c1307.2).length)) ++ ([[((x3 : Nat) : Int)]] : List (List Int))).length)))
  (cond (Nat.blt (Int.toNat (c1493.2.2.1)) (((((c1307.2).drop 0).take ((c1307.2).length)) ++ ([[((x3 : Nat) : Int)]] : List (List Int))).length))
  (cond ((decide ((0 : Int) ≤ (c1493.2.1))) && (Nat.blt (Int.toNat (c1493.2.1)) (((((c1307.2).drop 0).take ((c1307.2).length)) ++ ([[((x3 : Nat) : Int)]] : List (List Int))).length)))
  (cond (Nat.blt (Int.toNat (c1493.2.1)) (((((c1307.2).drop 0).take ((c1307.2).length)) ++ ([[((x3 : Nat) : Int)]] : List (List Int))).length))
  (a37 x0 x1 x2 x3 x4 x5 x6 x7 x8 x9 x10 x11 x12 x13 x14 (0, (Int.toNat ((((((c1307.2).drop 0).take ((c1307.2).length)) ++ ([[((x3 : Nat) : Int)]] : List (List Int))).getD (Int.toNat (c1493.2.2.1)) []).getD 0 0)), (Int.toNat ((((((c1307.2).drop 0).take ((c1307.2).length)) ++ ([[((x3 : Nat) : Int)]] : List (List Int))).getD (Int.toNat (c1493.2.1)) []).getD 0 0)), 0))
  none)
  none)
  none)
  none))
  none)
  none))
  none)
  (cond (Nat.beq (c1307.1) 1)
  (cond (Nat.beq c1494 0)
  (a37 x0 x1 x2 x3 x4 x5 x6 x7 x8 x9 x10 x11 x12 x13 x14 (0, 0, 0, 4))
  (cond (Nat.beq c1494 1)
  (cond (Nat.beq (c1495.1) 0)
  (cond (((c1495.2.2.2.1) : Int) == 0)
  (a37 x0 x1 x2 x3 x4 x5 x6 x7 x8 x9 x10 x11 x12 x13 x14 (0, 0, 0, 6))
  (cond ((decide ((0 : Int) ≤ (c1495.2.2.1))) && (Nat.blt (Int.toNat (c1495.2.2.1)) 1))
  (cond (Nat.blt (Int.toNat (c1495.2.2.1)) 1)
  (cond ((decide ((0 : Int) ≤ (c1495.2.1))) && (Nat.blt (Int.toNat (c1495.2.1)) 1))
  (cond (Nat.blt (Int.toNat (c1495.2.1)) 1)
  (a37 x0 x1 x2 x3 x4 x5 x6 x7 x8 x9 x10 x11 x12 x13 x14 (0, (Int.toNat ((([[((x3 : Nat) : Int)]] : List (List Int)).getD (Int.toNat (c1495.2.2.1)) []).getD 0 0)), (Int.toNat ((([[((x3 : Nat) : Int)]] : List (List Int)).getD (Int.toNat (c1495.2.1)) []).getD 0 0)), 0))
  none)
  none)
  none)
  none))
  none)
  none))
  none))
  (cond (Nat.beq (0 + (Int.toNat x8) * 2) 3)
  (cond (Nat.beq (c1496.1) 0)
  (cond (Nat.ble (((c1496.2).length + 1) * 5) 140737488355328)
  (cond (Nat.beq c1498 0)
  (a37 x0 x1 x2 x3 x4 x5 x6 x7 x8 x9 x10 x11 x12 x13 x14 (0, 0, 0, 4))
  (cond (Nat.beq c1498 1)
  (cond (Nat.beq (c1682.1) 0)
  (cond (((c1682.2.2.2.1) : Int) == 0)
  (a37 x0 x1 x2 x3 x4 x5 x6 x7 x8 x9 x10 x11 x12 x13 x14 (0, 0, 0, 6))
  (cond ((decide ((0 : Int) ≤ (c1682.2.2.1))) && (Nat.blt (Int.toNat (c1682.2.2.1)) (((((c1496.2).drop 0).take ((c1496.2).length)) ++ ([[((x4 : Nat) : Int)]] : List (List Int))).length)))
  (cond (Nat.blt (Int.toNat (c1682.2.2.1)) (((((c1496.2).drop 0).take ((c1496.2).length)) ++ ([[((x4 : Nat) : Int)]] : List (List Int))).length))
  (cond ((decide ((0 : Int) ≤ (c1682.2.1))) && (Nat.blt (Int.toNat (c1682.2.1)) (((((c1496.2).drop 0).take ((c1496.2).length)) ++ ([[((x4 : Nat) : Int)]] : List (List Int))).length)))
  (cond (Nat.blt (Int.toNat (c1682.2.1)) (((((c1496.2).drop 0).take ((c1496.2).length)) ++ ([[((x4 : Nat) : Int)]] : List (List Int))).length))
  (a37 x0 x1 x2 x3 x4 x5 x6 x7 x8 x9 x10 x11 x12 x13 x14 (0, (Int.toNat ((((((c1496.2).drop 0).take ((c1496.2).length)) ++ ([[((x4 : Nat) : Int)]] : List (List Int))).getD (Int.toNat (c1682.2.2.1)) []).getD 0 0)), (Int.toNat ((((((c1496.2).drop 0).take ((c1496.2).length)) ++ ([[((x4 : Nat) : Int)]] : List (List Int))).getD (Int.toNat (c1682.2.1)) []).getD 0 0)), 0))
  none)
  none)
  none)
  none))
  none)
  none))
  none)
  (cond (Nat.beq (c1496.1) 1)
  (cond (Nat.beq c1683 0)
  (a37 x0 x1 x2 x3 x4 x5 x6 x7 x8 x9 x10 x11 x12 x13 x14 (0, 0, 0, 4))
  (cond (Nat.beq c1683 1)
  (cond (Nat.beq (c1684.1) 0)
  (cond (((c1684.2.2.2.1) : Int) == 0)
  (a37 x0 x1 x2 x3 x4 x5 x6 x7 x8 x9 x10 x11 x12 x13 x14 (0, 0, 0, 6))
  (cond ((decide ((0 : Int) ≤ (c1684.2.2.1))) && (Nat.blt (Int.toNat (c1684.2.2.1)) 1))
  (cond (Nat.blt (Int.toNat (c1684.2.2.1)) 1)
  (cond ((decide ((0 : Int) ≤ (c1684.2.1))) && (Nat.blt (Int.toNat (c1684.2.1)) 1))
  (cond (Nat.blt (Int.toNat (c1684.2.1)) 1)
  (a37 x0 x1 x2 x3 x4 x5 x6 x7 x8 x9 x10 x11 x12 x13 x14 (0, (Int.toNat ((([[((x4 : Nat) : Int)]] : List (List Int)).getD (Int.toNat (c1684.2.2.1)) []).getD 0 0)), (Int.toNat ((([[((x4 : Nat) : Int)]] : List (List Int)).getD (Int.toNat (c1684.2.1)) []).getD 0 0)), 0))
  none)
  none)
  none)
  none))
  none)
  none))
  none))
  (cond (Nat.beq (0 + (Int.toNat x8) * 2) 4)
  (cond (Nat.beq (c1685.1) 0)
  (cond (Nat.ble (((c1685.2).length + 1) * 5) 140737488355328)
  (cond (Nat.beq c1687 0)
  (a37 x0 x1 x2 x3 x4 x5 x6 x7 x8 x9 x10 x11 x12 x13 x14 (0, 0, 0, 4))
  (cond (Nat.beq c1687 1)
  (cond (Nat.beq (c1871.1) 0)
  (cond (((c1871.2.2.2.1) : Int) == 0)
  (a37 x0 x1 x2 x3 x4 x5 x6 x7 x8 x9 x10 x11 x12 x13 x14 (0, 0, 0, 6))
  (cond ((decide ((0 : Int) ≤ (c1871.2.2.1))) && (Nat.blt (Int.toNat (c1871.2.2.1)) (((((c1685.2).drop 0).take ((c1685.2).length)) ++ ([[((x5 : Nat) : Int)]] : List (List Int))).length)))
  (cond (Nat.blt (Int.toNat (c1871.2.2.1)) (((((c1685.2).drop 0).take ((c1685.2).length)) ++ ([[((x5 : Nat) : Int)]] : List (List Int))).length))
  (cond ((decide ((0 : Int) ≤ (c1871.2.1))) && (Nat.blt (Int.toNat (c1871.2.1)) (((((c1685.2).drop 0).take ((c1685.2).length)) ++ ([[((x5 : Nat) : Int)]] : List (List Int))).length)))
  (cond (Nat.blt (Int.toNat (c1871.2.1)) (((((c1685.2).drop 0).take ((c1685.2).length)) ++ ([[((x5 : Nat) : Int)]] : List (List Int))).length))
  (a37 x0 x1 x2 x3 x4 x5 x6 x7 x8 x9 x10 x11 x12 x13 x14 (0, (Int.toNat ((((((c1685.2).drop 0).take ((c1685.2).length)) ++ ([[((x5 : Nat) : Int)]] : List (List Int))).getD (Int.toNat (c1871.2.2.1)) []).getD 0 0)), (Int.toNat ((((((c1685.2).drop 0).take ((c1685.2).length)) ++ ([[((x5 : Nat) : Int)]] : List (List Int))).getD (Int.toNat (c1871.2.1)) []).getD 0 0)), 0))
  none)
  none)
  none)
  none))
  none)
  none))
  none)
  (cond (Nat.beq (c1685.1) 1)
  (cond (Nat.beq c1872 0)
  (a37 x0 x1 x2 x3 x4 x5 x6 x7 x8 x9 x10 x11 x12 x13 x14 (0, 0, 0, 4))
  (cond (Nat.beq c1872 1)
  (cond (Nat.beq (c1873.1) 0)
  (cond (((c1873.2.2.2.1) : Int) == 0)
  (a37 x0 x1 x2 x3 x4 x5 x6 x7 x8 x9 x10 x11 x12 x13 x14 (0, 0, 0, 6))
  (cond ((decide ((0 : Int) ≤ (c1873.2.2.1))) && (Nat.blt (Int.toNat (c1873.2.2.1)) 1))
  (cond (Nat.blt (Int.toNat (c1873.2.2.1)) 1)
  (cond ((decide ((0 : Int) ≤ (c1873.2.1))) && (Nat.blt (Int.toNat (c1873.2.1)) 1))
  (cond (Nat.blt (Int.toNat (c1873.2.1)) 1)
  (a37 x0 x1 x2 x3 x4 x5 x6 x7 x8 x9 x10 x11 x12 x13 x14 (0, (Int.toNat ((([[((x5 : Nat) : Int)]] : List (List Int)).getD (Int.toNat (c1873.2.2.1)) []).getD 0 0)), (Int.toNat ((([[((x5 : Nat) : Int)]] : List (List Int)).getD (Int.toNat (c1873.2.1)) []).getD 0 0)), 0))
  none)
  none)
  none)
  none))
  none)
  none))
  none))
  (cond (Nat.beq (0 + (Int.toNat x8) * 2) 5)
  (cond (Nat.beq (c1874.1) 0)
  (cond (Nat.ble (((c1874.2).length + 1) * 5) 140737488355328)
  (cond (Nat.beq c1876 0)
  (a37 x0 x1 x2 x3 x4 x5 x6 x7 x8 x9 x10 x11 x12 x13 x14 (0, 0, 0, 4))
  (cond (Nat.beq c1876 1)
  (cond (Nat.beq (c2060.1) 0)
  (cond (((c2060.2.2.2.1) : Int) == 0)
  (a37 x0 x1 x2 x3 x4 x5 x6 x7 x8 x9 x10 x11 x12 x13 x14 (0, 0, 0, 6))
  (cond ((decide ((0 : Int) ≤ (c2060.2.2.1))) && (Nat.blt (Int.toNat (c2060.2.2.1)) (((((c1874.2).drop 0).take ((c1874.2).length)) ++ ([[((x6 : Nat) : Int)]] : List (List Int))).length)))
  (cond (Nat.blt (Int.toNat (c2060.2.2.1)) (((((c1874.2).drop 0).take ((c1874.2).length)) ++ ([[((x6 : Nat) : Int)]] : List (List Int))).length))
  (cond ((decide ((0 : Int) ≤ (c2060.2.1))) && (Nat.blt (Int.toNat (c2060.2.1)) (((((c1874.2).drop 0).take ((c1874.2).length)) ++ ([[((x6 : Nat) : Int)]] : List (List Int))).length)))
  (cond (Nat.blt (Int.toNat (c2060.2.1)) (((((c1874.2).drop 0).take ((c1874.2).length)) ++ ([[((x6 : Nat) : Int)]] : List (List Int))).length))
  (a37 x0 x1 x2 x3 x4 x5 x6 x7 x8 x9 x10 x11 x12 x13 x14 (0, (Int.toNat ((((((c1874.2).drop 0).take ((c1874.2).length)) ++ ([[((x6 : Nat) : Int)]] : List (List Int))).getD (Int.toNat (c2060.2.2.1)) []).getD 0 0)), (Int.toNat ((((((c1874.2).drop 0).take ((c1874.2).length)) ++ ([[((x6 : Nat) : Int)]] : List (List Int))).getD (Int.toNat (c2060.2.1)) []).getD 0 0)), 0))
  none)
  none)
  none)
  none))
  none)
  none))
  none)
  (cond (Nat.beq (c1874.1) 1)
  (cond (Nat.beq c2061 0)
  (a37 x0 x1 x2 x3 x4 x5 x6 x7 x8 x9 x10 x11 x12 x13 x14 (0, 0, 0, 4))
  (cond (Nat.beq c2061 1)
  (cond (Nat.beq (c2062.1) 0)
  (cond (((c2062.2.2.2.1) : Int) == 0)
  (a37 x0 x1 x2 x3 x4 x5 x6 x7 x8 x9 x10 x11 x12 x13 x14 (0, 0, 0, 6))
  (cond ((decide ((0 : Int) ≤ (c2062.2.2.1))) && (Nat.blt (Int.toNat (c2062.2.2.1)) 1))
  (cond (Nat.blt (Int.toNat (c2062.2.2.1)) 1)
  (cond ((decide ((0 : Int) ≤ (c2062.2.1))) && (Nat.blt (Int.toNat (c2062.2.1)) 1))
  (cond (Nat.blt (Int.toNat (c2062.2.1)) 1)
  (a37 x0 x1 x2 x3 x4 x5 x6 x7 x8 x9 x10 x11 x12 x13 x14 (0, (Int.toNat ((([[((x6 : Nat) : Int)]] : List (List Int)).getD (Int.toNat (c2062.2.2.1)) []).getD 0 0)), (Int.toNat ((([[((x6 : Nat) : Int)]] : List (List Int)).getD (Int.toNat (c2062.2.1)) []).getD 0 0)), 0))
  none)
  none)
  none)
  none))
  none)
  none))
  none))
  (cond (Nat.beq (0 + (Int.toNat x8) * 2) 6)
  (cond (Nat.beq (c2063.1) 0)
  (cond (Nat.ble (((c2063.2).length + 1) * 5) 140737488355328)
  (cond (Nat.beq c2065 0)
  (a37 x0 x1 x2 x3 x4 x5 x6 x7 x8 x9 x10 x11 x12 x13 x14 (0, 0, 0, 4))
  (cond (Nat.beq c2065 1)
  (cond (Nat.beq (c2249.1) 0)
  (cond (((c2249.2.2.2.1) : Int) == 0)
  (a37 x0 x1 x2 x3 x4 x5 x6 x7 x8 x9 x10 x11 x12 x13 x14 (0, 0, 0, 6))
  (cond ((decide ((0 : Int) ≤ (c2249.2.2.1))) && (Nat.blt (Int.toNat (c2249.2.2.1)) (((((c2063.2).drop 0).take ((c2063.2).length)) ++ ([[((x7 : Nat) : Int)]] : List (List Int))).length)))
  (cond (Nat.blt (Int.toNat (c2249.2.2.1)) (((((c2063.2).drop 0).take ((c2063.2).length)) ++ ([[((x7 : Nat) : Int)]] : List (List Int))).length))
  (cond ((decide ((0 : Int) ≤ (c2249.2.1))) && (Nat.blt (Int.toNat (c2249.2.1)) (((((c2063.2).drop 0).take ((c2063.2).length)) ++ ([[((x7 : Nat) : Int)]] : List (List Int))).length)))
  (cond (Nat.blt (Int.toNat (c2249.2.1)) (((((c2063.2).drop 0).take ((c2063.2).length)) ++ ([[((x7 : Nat) : Int)]] : List (List Int))).length))
  (a37 x0 x1 x2 x3 x4 x5 x6 x7 x8 x9 x10 x11 x12 x13 x14 (0, (Int.toNat ((((((c2063.2).drop 0).take ((c2063.2).length)) ++ ([[((x7 : Nat) : Int)]] : List (List Int))).getD (Int.toNat (c2249.2.2.1)) []).getD 0 0)), (Int.toNat ((((((c2063.2).drop 0).take ((c2063.2).length)) ++ ([[((x7 : Nat) : Int)]] : List (List Int))).getD (Int.toNat (c2249.2.1)) []).getD 0 0)), 0))
  none)
  none)
  none)
  none))
  none)
  none))
  none)
  (cond (Nat.beq (c2063.1) 1)
  (cond (Nat.beq c2250 0)
  (a37 x0 x1 x2 x3 x4 x5 x6 x7 x8 x9 x10 x11 x12 x13 x14 (0, 0, 0, 4))
  (cond (Nat.beq c2250 1)
  (cond (Nat.beq (c2251.1) 0)
  (cond (((c2251.2.2.2.1) : Int) == 0)
  (a37 x0 x1 x2 x3 x4 x5 x6 x7 x8 x9 x10 x11 x12 x13 x14 (0, 0, 0, 6))
  (cond ((decide ((0 : Int) ≤ (c2251.2.2.1))) && (Nat.blt (Int.toNat (c2251.2.2.1)) 1))
  (cond (Nat.blt (Int.toNat (c2251.2.2.1)) 1)
  (cond ((decide ((0 : Int) ≤ (c2251.2.1))) && (Nat.blt (Int.toNat (c2251.2.1)) 1))
  (cond (Nat.blt (Int.toNat (c2251.2.1)) 1)
  (a37 x0 x1 x2 x3 x4 x5 x6 x7 x8 x9 x10 x11 x12 x13 x14 (0, (Int.toNat ((([[((x7 : Nat) : Int)]] : List (List Int)).getD (Int.toNat (c2251.2.2.1)) []).getD 0 0)), (Int.toNat ((([[((x7 : Nat) : Int)]] : List (List Int)).getD (Int.toNat (c2251.2.1)) []).getD 0 0)), 0))
  none)
  none)
  none)
  none))
  none)
  none))
  none))
  none)))))))
  none))
  none))))))))
 none)
set_option maxRecDepth 100000 in
set_option maxHeartbeats 4000000 in
theorem e37 (x0 x1 x2 x3 x4 x5 x6 x7 : Nat) (x8 : Int) (x9 : ByteArray) (x10 x11 : Nat) (x12 : Int) (x13 : List ByteArray) (x14 : List (List Int)) : evFn Try.prog ext T71 L37_3 200 Try.f37 [.agg #[wsl 0, wsl 1], .agg #[.float .f32 x0, .float .f32 x1, .float .f32 x2, .float .f32 x3, .float .f32 x4, .float .f32 x5, .float .f32 x6, .float .f32 x7], .int .i64 x8, .string x9, .agg #[.float .f32 x10, .float .f32 x11], .int .i64 x12] ⟨[⟨true, (some (.strs x13))⟩, ⟨true, (some (.tab [.int .i8, .int .i16, .fl .f32] x14))⟩], 2, []⟩ = firstT [((Nat.beq ((r37 x0 x1 x2 x3 x4 x5 x6 x7 x8 x9 x10 x11 x12 x13 x14).1) 0), .tuple #[.agg #[.float .f32 ((r37 x0 x1 x2 x3 x4 x5 x6 x7 x8 x9 x10 x11 x12 x13 x14).2.1), .float .f32 ((r37 x0 x1 x2 x3 x4 x5 x6 x7 x8 x9 x10 x11 x12 x13 x14).2.2.1)], .int .i64 ((r37 x0 x1 x2 x3 x4 x5 x6 x7 x8 x9 x10 x11 x12 x13 x14).2.2.2)], ⟨[⟨true, (some (.strs x13))⟩, ⟨true, (some (.tab [.int .i8, .int .i16, .fl .f32] x14))⟩], 2, []⟩)] :=
 (show evFn Try.prog ext T71 L37_3 200 Try.f37 [.agg #[wsl 0, wsl 1], .agg #[.float .f32 x0, .float .f32 x1, .float .f32 x2, .float .f32 x3, .float .f32 x4, .float .f32 x5, .float .f32 x6, .float .f32 x7], .int .i64 x8, .string x9, .agg #[.float .f32 x10, .float .f32 x11], .int .i64 x12] ⟨[⟨true, (some (.strs x13))⟩, ⟨true, (some (.tab [.int .i8, .int .i16, .fl .f32] x14))⟩], 2, []⟩ = w37 x0 x1 x2 x3 x4 x5 x6 x7 x8 x9 x10 x11 x12 x13 x14 from by kernel_rfl).trans
 (show w37 x0 x1 x2 x3 x4 x5 x6 x7 x8 x9 x10 x11 x12 x13 x14 = a37 x0 x1 x2 x3 x4 x5 x6 x7 x8 x9 x10 x11 x12 x13 x14 (r37 x0 x1 x2 x3 x4 x5 x6 x7 x8 x9 x10 x11 x12 x13 x14) from by unfold w37 r37; exact (cond_both (a37 x0 x1 x2 x3 x4 x5 x6 x7 x8 x9 x10 x11 x12 x13 x14) _ (fun h0 => (cond_both (a37 x0 x1 x2 x3 x4 x5 x6 x7 x8 x9 x10 x11 x12 x13 x14) _ (fun h1 => rfl) (fun h1 => (cond_both (a37 x0 x1 x2 x3 x4 x5 x6 x7 x8 x9 x10 x11 x12 x13 x14) _ (fun h2 => rfl) (fun h2 => (cond_both (a37 x0 x1 x2 x3 x4 x5 x6 x7 x8 x9 x10 x11 x12 x13 x14) _ (fun h3 => rfl) (fun h3 => (cond_both (a37 x0 x1 x2 x3 x4 x5 x6 x7 x8 x9 x10 x11 x12 x13 x14) _ (fun h4 => rfl) (fun h4 => (cond_both (a37 x0 x1 x2 x3 x4 x5 x6 x7 x8 x9 x10 x11 x12 x13 x14) _ (fun h5 => rfl) (fun h5 => (cond_both (a37 x0 x1 x2 x3 x4 x5 x6 x7 x8 x9 x10 x11 x12 x13 x14) _ (fun h6 => rfl) (fun h6 => (cond_both (a37 x0 x1 x2 x3 x4 x5 x6 x7 x8 x9 x10 x11 x12 x13 x14) _ (fun h7 => rfl) (fun h7 => (cond_both (a37 x0 x1 x2 x3 x4 x5 x6 x7 x8 x9 x10 x11 x12 x13 x14) _ (fun h8 => (cond_both (a37 x0 x1 x2 x3 x4 x5 x6 x7 x8 x9 x10 x11 x12 x13 x14) _ (fun h9 => rfl) (fun h9 => (cond_both (a37 x0 x1 x2 x3 x4 x5 x6 x7 x8 x9 x10 x11 x12 x13 x14) _ (fun h10 => (cond_both (a37 x0 x1 x2 x3 x4 x5 x6 x7 x8 x9 x10 x11 x12 x13 x14) _ (fun h11 => (cond_both (a37 x0 x1 x2 x3 x4 x5 x6 x7 x8 x9 x10 x11 x12 x13 x14) _ (fun h12 => (cond_both (a37 x0 x1 x2 x3 x4 x5 x6 x7 x8 x9 x10 x11 x12 x13 x14) _ (fun h13 => (cond_both (a37 x0 x1 x2 x3 x4 x5 x6 x7 x8 x9 x10 x11 x12 x13 x14) _ (fun h14 => rfl) (fun h14 => (cond_both (a37 x0 x1 x2 x3 x4 x5 x6 x7 x8 x9 x10 x11 x12 x13 x14) _ (fun h15 => (cond_both (a37 x0 x1 x2 x3 x4 x5 x6 x7 x8 x9 x10 x11 x12 x13 x14) _ (fun h16 => (cond_both (a37 x0 x1 x2 x3 x4 x5 x6 x7 x8 x9 x10 x11 x12 x13 x14) _ (fun h17 => rfl) (fun h17 => (cond_both (a37 x0 x1 x2 x3 x4 x5 x6 x7 x8 x9 x10 x11 x12 x13 x14) _ (fun h18 => (cond_t (ev_and2 h18) (cond_both (a37 x0 x1 x2 x3 x4 x5 x6 x7 x8 x9 x10 x11 x12 x13 x14) _ (fun h19 => (cond_t (ev_and2 h19) rfl)) (fun h19 => rfl)))) (fun h18 => rfl))))) (fun h16 => rfl))) (fun h15 => rfl))))) (fun h13 => rfl))) (fun h12 => (cond_both (a37 x0 x1 x2 x3 x4 x5 x6 x7 x8 x9 x10 x11 x12 x13 x14) _ (fun h13 => (cond_both (a37 x0 x1 x2 x3 x4 x5 x6 x7 x8 x9 x10 x11 x12 x13 x14) _ (fun h14 => rfl) (fun h14 => (cond_both (a37 x0 x1 x2 x3 x4 x5 x6 x7 x8 x9 x10 x11 x12 x13 x14) _ (fun h15 => (cond_both (a37 x0 x1 x2 x3 x4 x5 x6 x7 x8 x9 x10 x11 x12 x13 x14) _ (fun h16 => (cond_both (a37 x0 x1 x2 x3 x4 x5 x6 x7 x8 x9 x10 x11 x12 x13 x14) _ (fun h17 => rfl) (fun h17 => (cond_both (a37 x0 x1 x2 x3 x4 x5 x6 x7 x8 x9 x10 x11 x12 x13 x14) _ (fun h18 => (cond_t (ev_and2 h18) (cond_both (a37 x0 x1 x2 x3 x4 x5 x6 x7 x8 x9 x10 x11 x12 x13 x14) _ (fun h19 => (cond_t (ev_and2 h19) rfl)) (fun h19 => rfl)))) (fun h18 => rfl))))) (fun h16 => rfl))) (fun h15 => rfl))))) (fun h13 => rfl))))) (fun h11 => (cond_both (a37 x0 x1 x2 x3 x4 x5 x6 x7 x8 x9 x10 x11 x12 x13 x14) _ (fun h12 => (cond_both (a37 x0 x1 x2 x3 x4 x5 x6 x7 x8 x9 x10 x11 x12 x13 x14) _ (fun h13 => (cond_both (a37 x0 x1 x2 x3 x4 x5 x6 x7 x8 x9 x10 x11 x12 x13 x14) _ (fun h14 => (cond_both (a37 x0 x1 x2 x3 x4 x5 x6 x7 x8 x9 x10 x11 x12 x13 x14) _ (fun h15 => rfl) (fun h15 => (cond_both (a37 x0 x1 x2 x3 x4 x5 x6 x7 x8 x9 x10 x11 x12 x13 x14) _ (fun h16 => (cond_both (a37 x0 x1 x2 x3 x4 x5 x6 x7 x8 x9 x10 x11 x12 x13 x14) _ (fun h17 => (cond_both (a37 x0 x1 x2 x3 x4 x5 x6 x7 x8 x9 x10 x11 x12 x13 x14) _ (fun h18 => rfl) (fun h18 => (cond_both (a37 x0 x1 x2 x3 x4 x5 x6 x7 x8 x9 x10 x11 x12 x13 x14) _ (fun h19 => (cond_t (ev_and2 h19) (cond_both (a37 x0 x1 x2 x3 x4 x5 x6 x7 x8 x9 x10 x11 x12 x13 x14) _ (fun h20 => (cond_t (ev_and2 h20) rfl)) (fun h20 => rfl)))) (fun h19 => rfl))))) (fun h17 => rfl))) (fun h16 => rfl))))) (fun h14 => rfl))) (fun h13 => (cond_both (a37 x0 x1 x2 x3 x4 x5 x6 x7 x8 x9 x10 x11 x12 x13 x14) _ (fun h14 => (cond_both (a37 x0 x1 x2 x3 x4 x5 x6 x7 x8 x9 x10 x11 x12 x13 x14) _ (fun h15 => rfl) (fun h15 => (cond_both (a37 x0 x1 x2 x3 x4 x5 x6 x7 x8 x9 x10 x11 x12 x13 x14) _ (fun h16 => (cond_both (a37 x0 x1 x2 x3 x4 x5 x6 x7 x8 x9 x10 x11 x12 x13 x14) _ (fun h17 => (cond_both (a37 x0 x1 x2 x3 x4 x5 x6 x7 x8 x9 x10 x11 x12 x13 x14) _ (fun h18 => rfl) (fun h18 => (cond_both (a37 x0 x1 x2 x3 x4 x5 x6 x7 x8 x9 x10 x11 x12 x13 x14) _ (fun h19 => (cond_t (ev_and2 h19) (cond_both (a37 x0 x1 x2 x3 x4 x5 x6 x7 x8 x9 x10 x11 x12 x13 x14) _ (fun h20 => (cond_t (ev_and2 h20) rfl)) (fun h20 => rfl)))) (fun h19 => rfl))))) (fun h17 => rfl))) (fun h16 => rfl))))) (fun h14 => rfl))))) (fun h12 => (cond_both (a37 x0 x1 x2 x3 x4 x5 x6 x7 x8 x9 x10 x11 x12 x13 x14) _ (fun h13 => (cond_both (a37 x0 x1 x2 x3 x4 x5 x6 x7 x8 x9 x10 x11 x12 x13 x14) _ (fun h14 => (cond_both (a37 x0 x1 x2 x3 x4 x5 x6 x7 x8 x9 x10 x11 x12 x13 x14) _ (fun h15 => (cond_both (a37 x0 x1 x2 x3 x4 x5 x6 x7 x8 x9 x10 x11 x12 x13 x14) _ (fun h16 => rfl) (fun h16 => (cond_both (a37 x0 x1 x2 x3 x4 x5 x6 x7 x8 x9 x10 x11 x12 x13 x14) _ (fun h17 => (cond_both (a37 x0 x1 x2 x3 x4 x5 x6 x7 x8 x9 x10 x11 x12 x13 x14) _ (fun h18 => (cond_both (a37 x0 x1 x2 x3 x4 x5 x6 x7 x8 x9 x10 x11 x12 x13 x14) _ (fun h19 => rfl) (fun h19 => (cond_both (a37 x0 x1 x2 x3 x4 x5 x6 x7 x8 x9 x10 x11 x12 x13 x14) _ (fun h20 => (cond_t (ev_and2 h20) (cond_both (a37 x0 x1 x2 x3 x4 x5 x6 x7 x8 x9 x10 x11 x12 x13 x14) _ (fun h21 => (cond_t (ev_and2 h21) rfl)) (fun h21 => rfl)))) (fun h20 => rfl))))) (fun h18 => rfl))) (fun h17 => rfl))))) (fun h15 => rfl))) (fun h14 => (cond_both (a37 x0 x1 x2 x3 x4 x5 x6 x7 x8 x9 x10 x11 x12 x13 x14) _ (fun h15 => (cond_both (a37 x0 x1 x2 x3 x4 x5 x6 x7 x8 x9 x10 x11 x12 x13 x14) _ (fun h16 => rfl) (fun h16 => (cond_both (a37 x0 x1 x2 x3 x4 x5 x6 x7 x8 x9 x10 x11 x12 x13 x14) _ (fun h17 => (cond_both (a37 x0 x1 x2 x3 x4 x5 x6 x7 x8 x9 x10 x11 x12 x13 x14) _ (fun h18 => (cond_both (a37 x0 x1 x2 x3 x4 x5 x6 x7 x8 x9 x10 x11 x12 x13 x14) _ (fun h19 => rfl) (fun h19 => (cond_both (a37 x0 x1 x2 x3 x4 x5 x6 x7 x8 x9 x10 x11 x12 x13 x14) _ (fun h20 => (cond_t (ev_and2 h20) (cond_both (a37 x0 x1 x2 x3 x4 x5 x6 x7 x8 x9 x10 x11 x12 x13 x14) _ (fun h21 => (cond_t (ev_and2 h21) rfl)) (fun h21 => rfl)))) (fun h20 => rfl))))) (fun h18 => rfl))) (fun h17 => rfl))))) (fun h15 => rfl))))) (fun h13 => (cond_both (a37 x0 x1 x2 x3 x4 x5 x6 x7 x8 x9 x10 x11 x12 x13 x14) _ (fun h14 => (cond_both (a37 x0 x1 x2 x3 x4 x5 x6 x7 x8 x9 x10 x11 x12 x13 x14) _ (fun h15 => (cond_both (a37 x0 x1 x2 x3 x4 x5 x6 x7 x8 x9 x10 x11 x12 x13 x14) _ (fun h16 => (cond_both (a37 x0 x1 x2 x3 x4 x5 x6 x7 x8 x9 x10 x11 x12 x13 x14) _ (fun h17 => rfl) (fun h17 => (cond_both (a37 x0 x1 x2 x3 x4 x5 x6 x7 x8 x9 x10 x11 x12 x13 x14) _ (fun h18 => (cond_both (a37 x0 x1 x2 x3 x4 x5 x6 x7 x8 x9 x10 x11 x12 x13 x14) _ (fun h19 => (cond_both (a37 x0 x1 x2 x3 x4 x5 x6 x7 x8 x9 x10 x11 x12 x13 x14) _ (fun h20 => rfl) (fun h20 => (cond_both (a37 x0 x1 x2 x3 x4 x5 x6 x7 x8 x9 x10 x11 x12 x13 x14) _ (fun h21 => (cond_t (ev_and2 h21) (cond_both (a37 x0 x1 x2 x3 x4 x5 x6 x7 x8 x9 x10 x11 x12 x13 x14) _ (fun h22 => (cond_t (ev_and2 h22) rfl)) (fun h22 => rfl)))) (fun h21 => rfl))))) (fun h19 => rfl))) (fun h18 => rfl))))) (fun h16 => rfl))) (fun h15 => (cond_both (a37 x0 x1 x2 x3 x4 x5 x6 x7 x8 x9 x10 x11 x12 x13 x14) _ (fun h16 => (cond_both (a37 x0 x1 x2 x3 x4 x5 x6 x7 x8 x9 x10 x11 x12 x13 x14) _ (fun h17 => rfl) (fun h17 => (cond_both (a37 x0 x1 x2 x3 x4 x5 x6 x7 x8 x9 x10 x11 x12 x13 x14) _ (fun h18 => (cond_both (a37 x0 x1 x2 x3 x4 x5 x6 x7 x8 x9 x10 x11 x12 x13 x14) _ (fun h19 => (cond_both (a37 x0 x1 x2 x3 x4 x5 x6 x7 x8 x9 x10 x11 x12 x13 x14) _ (fun h20 => rfl) (fun h20 => (cond_both (a37 x0 x1 x2 x3 x4 x5 x6 x7 x8 x9 x10 x11 x12 x13 x14) _ (fun h21 => (cond_t (ev_and2 h21) (cond_both (a37 x0 x1 x2 x3 x4 x5 x6 x7 x8 x9 x10 x11 x12 x13 x14) _ (fun h22 => (cond_t (ev_and2 h22) rfl)) (fun h22 => rfl)))) (fun h21 => rfl))))) (fun h19 => rfl))) (fun h18 => rfl))))) (fun h16 => rfl))))) (fun h14 => (cond_both (a37 x0 x1 x2 x3 x4 x5 x6 x7 x8 x9 x10 x11 x12 x13 x14) _ (fun h15 => (cond_both (a37 x0 x1 x2 x3 x4 x5 x6 x7 x8 x9 x10 x11 x12 x13 x14) _ (fun h16 => (cond_both (a37 x0 x1 x2 x3 x4 x5 x6 x7 x8 x9 x10 x11 x12 x13 x14) _ (fun h17 => (cond_both (a37 x0 x1 x2 x3 x4 x5 x6 x7 x8 x9 x10 x11 x12 x13 x14) _ (fun h18 => rfl) (fun h18 => (cond_both (a37 x0 x1 x2 x3 x4 x5 x6 x7 x8 x9 x10 x11 x12 x13 x14) _ (fun h19 => (cond_both (a37 x0 x1 x2 x3 x4 x5 x6 x7 x8 x9 x10 x11 x12 x13 x14) _ (fun h20 => (cond_both (a37 x0 x1 x2 x3 x4 x5 x6 x7 x8 x9 x10 x11 x12 x13 x14) _ (fun h21 => rfl) (fun h21 => (cond_both (a37 x0 x1 x2 x3 x4 x5 x6 x7 x8 x9 x10 x11 x12 x13 x14) _ (fun h22 => (cond_t (ev_and2 h22) (cond_both (a37 x0 x1 x2 x3 x4 x5 x6 x7 x8 x9 x10 x11 x12 x13 x14) _ (fun h23 => (cond_t (ev_and2 h23) rfl)) (fun h23 => rfl)))) (fun h22 => rfl))))) (fun h20 => rfl))) (fun h19 => rfl))))) (fun h17 => rfl))) (fun h16 => (cond_both (a37 x0 x1 x2 x3 x4 x5 x6 x7 x8 x9 x10 x11 x12 x13 x14) _ (fun h17 => (cond_both (a37 x0 x1 x2 x3 x4 x5 x6 x7 x8 x9 x10 x11 x12 x13 x14) _ (fun h18 => rfl) (fun h18 => (cond_both (a37 x0 x1 x2 x3 x4 x5 x6 x7 x8 x9 x10 x11 x12 x13 x14) _ (fun h19 => (cond_both (a37 x0 x1 x2 x3 x4 x5 x6 x7 x8 x9 x10 x11 x12 x13 x14) _ (fun h20 => (cond_both (a37 x0 x1 x2 x3 x4 x5 x6 x7 x8 x9 x10 x11 x12 x13 x14) _ (fun h21 => rfl) (fun h21 => (cond_both (a37 x0 x1 x2 x3 x4 x5 x6 x7 x8 x9 x10 x11 x12 x13 x14) _ (fun h22 => (cond_t (ev_and2 h22) (cond_both (a37 x0 x1 x2 x3 x4 x5 x6 x7 x8 x9 x10 x11 x12 x13 x14) _ (fun h23 => (cond_t (ev_and2 h23) rfl)) (fun h23 => rfl)))) (fun h22 => rfl))))) (fun h20 => rfl))) (fun h19 => rfl))))) (fun h17 => rfl))))) (fun h15 => (cond_both (a37 x0 x1 x2 x3 x4 x5 x6 x7 x8 x9 x10 x11 x12 x13 x14) _ (fun h16 => (cond_both (a37 x0 x1 x2 x3 x4 x5 x6 x7 x8 x9 x10 x11 x12 x13 x14) _ (fun h17 => (cond_both (a37 x0 x1 x2 x3 x4 x5 x6 x7 x8 x9 x10 x11 x12 x13 x14) _ (fun h18 => (cond_both (a37 x0 x1 x2 x3 x4 x5 x6 x7 x8 x9 x10 x11 x12 x13 x14) _ (fun h19 => rfl) (fun h19 => (cond_both (a37 x0 x1 x2 x3 x4 x5 x6 x7 x8 x9 x10 x11 x12 x13 x14) _ (fun h20 => (cond_both (a37 x0 x1 x2 x3 x4 x5 x6 x7 x8 x9 x10 x11 x12 x13 x14) _ (fun h21 => (cond_both (a37 x0 x1 x2 x3 x4 x5 x6 x7 x8 x9 x10 x11 x12 x13 x14) _ (fun h22 => rfl) (fun h22 => (cond_both (a37 x0 x1 x2 x3 x4 x5 x6 x7 x8 x9 x10 x11 x12 x13 x14) _ (fun h23 => (cond_t (ev_and2 h23) (cond_both (a37 x0 x1 x2 x3 x4 x5 x6 x7 x8 x9 x10 x11 x12 x13 x14) _ (fun h24 => (cond_t (ev_and2 h24) rfl)) (fun h24 => rfl)))) (fun h23 => rfl))))) (fun h21 => rfl))) (fun h20 => rfl))))) (fun h18 => rfl))) (fun h17 => (cond_both (a37 x0 x1 x2 x3 x4 x5 x6 x7 x8 x9 x10 x11 x12 x13 x14) _ (fun h18 => (cond_both (a37 x0 x1 x2 x3 x4 x5 x6 x7 x8 x9 x10 x11 x12 x13 x14) _ (fun h19 => rfl) (fun h19 => (cond_both (a37 x0 x1 x2 x3 x4 x5 x6 x7 x8 x9 x10 x11 x12 x13 x14) _ (fun h20 => (cond_both (a37 x0 x1 x2 x3 x4 x5 x6 x7 x8 x9 x10 x11 x12 x13 x14) _ (fun h21 => (cond_both (a37 x0 x1 x2 x3 x4 x5 x6 x7 x8 x9 x10 x11 x12 x13 x14) _ (fun h22 => rfl) (fun h22 => (cond_both (a37 x0 x1 x2 x3 x4 x5 x6 x7 x8 x9 x10 x11 x12 x13 x14) _ (fun h23 => (cond_t (ev_and2 h23) (cond_both (a37 x0 x1 x2 x3 x4 x5 x6 x7 x8 x9 x10 x11 x12 x13 x14) _ (fun h24 => (cond_t (ev_and2 h24) rfl)) (fun h24 => rfl)))) (fun h23 => rfl))))) (fun h21 => rfl))) (fun h20 => rfl))))) (fun h18 => rfl))))) (fun h16 => (cond_both (a37 x0 x1 x2 x3 x4 x5 x6 x7 x8 x9 x10 x11 x12 x13 x14) _ (fun h17 => (cond_both (a37 x0 x1 x2 x3 x4 x5 x6 x7 x8 x9 x10 x11 x12 x13 x14) _ (fun h18 => (cond_both (a37 x0 x1 x2 x3 x4 x5 x6 x7 x8 x9 x10 x11 x12 x13 x14) _ (fun h19 => (cond_both (a37 x0 x1 x2 x3 x4 x5 x6 x7 x8 x9 x10 x11 x12 x13 x14) _ (fun h20 => rfl) (fun h20 => (cond_both (a37 x0 x1 x2 x3 x4 x5 x6 x7 x8 x9 x10 x11 x12 x13 x14) _ (fun h21 => (cond_both (a37 x0 x1 x2 x3 x4 x5 x6 x7 x8 x9 x10 x11 x12 x13 x14) _ (fun h22 => (cond_both (a37 x0 x1 x2 x3 x4 x5 x6 x7 x8 x9 x10 x11 x12 x13 x14) _ (fun h23 => rfl) (fun h23 => (cond_both (a37 x0 x1 x2 x3 x4 x5 x6 x7 x8 x9 x10 x11 x12 x13 x14) _ (fun h24 => (cond_t (ev_and2 h24) (cond_both (a37 x0 x1 x2 x3 x4 x5 x6 x7 x8 x9 x10 x11 x12 x13 x14) _ (fun h25 => (cond_t (ev_and2 h25) rfl)) (fun h25 => rfl)))) (fun h24 => rfl))))) (fun h22 => rfl))) (fun h21 => rfl))))) (fun h19 => rfl))) (fun h18 => (cond_both (a37 x0 x1 x2 x3 x4 x5 x6 x7 x8 x9 x10 x11 x12 x13 x14) _ (fun h19 => (cond_both (a37 x0 x1 x2 x3 x4 x5 x6 x7 x8 x9 x10 x11 x12 x13 x14) _ (fun h20 => rfl) (fun h20 => (cond_both (a37 x0 x1 x2 x3 x4 x5 x6 x7 x8 x9 x10 x11 x12 x13 x14) _ (fun h21 => (cond_both (a37 x0 x1 x2 x3 x4 x5 x6 x7 x8 x9 x10 x11 x12 x13 x14) _ (fun h22 => (cond_both (a37 x0 x1 x2 x3 x4 x5 x6 x7 x8 x9 x10 x11 x12 x13 x14) _ (fun h23 => rfl) (fun h23 => (cond_both (a37 x0 x1 x2 x3 x4 x5 x6 x7 x8 x9 x10 x11 x12 x13 x14) _ (fun h24 => (cond_t (ev_and2 h24) (cond_both (a37 x0 x1 x2 x3 x4 x5 x6 x7 x8 x9 x10 x11 x12 x13 x14) _ (fun h25 => (cond_t (ev_and2 h25) rfl)) (fun h25 => rfl)))) (fun h24 => rfl))))) (fun h22 => rfl))) (fun h21 => rfl))))) (fun h19 => rfl))))) (fun h17 => rfl))))))))))))))) (fun h10 => rfl))))) (fun h8 => rfl))))))))))))))))) (fun h0 => rfl)))
noncomputable def s37 (args : List Value) (s : St) : List (Bool × Value × St) :=
 match args, s.h with
 | [.agg ⟨[.iface f0 .nilIface, .iface f1 .nilIface]⟩, .agg ⟨[.float .f32 x0, .float .f32 x1, .float .f32 x2, .float .f32 x3, .float .f32 x4, .float .f32 x5, .float .f32 x6, .float .f32 x7]⟩, .int .i64 x8, .string x9, .agg ⟨[.float .f32 x10, .float .f32 x11]⟩, .int .i64 x12], [⟨true, some (.strs x13)⟩, ⟨true, some (.tab [.int .i8, .int .i16, .fl .f32] x14)⟩] => if f0 = 0 ∧ f1 = 1 then [((Nat.beq ((r37 x0 x1 x2 x3 x4 x5 x6 x7 x8 x9 x10 x11 x12 x13 x14).1) 0), .tuple #[.agg #[.float .f32 ((r37 x0 x1 x2 x3 x4 x5 x6 x7 x8 x9 x10 x11 x12 x13 x14).2.1), .float .f32 ((r37 x0 x1 x2 x3 x4 x5 x6 x7 x8 x9 x10 x11 x12 x13 x14).2.2.1)], .int .i64 ((r37 x0 x1 x2 x3 x4 x5 x6 x7 x8 x9 x10 x11 x12 x13 x14).2.2.2)], ⟨[⟨true, (some (.strs x13))⟩, ⟨true, (some (.tab [.int .i8, .int .i16, .fl .f32] x14))⟩], 2, []⟩)] else T71 37 args s
 | _, _ => T71 37 args s
noncomputable def T72 : CallF := addF T71 37 s37
set_option maxRecDepth 100000 in
set_option maxHeartbeats 4000000 in
theorem ok72 : CfOk Try.prog T72 := by
  refine cfOk_add ok71 fun args s r s' h1 h2 h3 => ?_
  unfold s37 at h3; split at h3
  · rename_i h; split at h3
    · rename_i hc; obtain ⟨rfl, rfl⟩ := hc; exact callOk ok71 Try.func37 h1 h2 h lok37_3.body (e37 _ _ _ _ _ _ _ _ _ _ _ _ _ _ _) rfl h3
    · exact ok71 _ _ _ _ _ h1 h2 h3
  · exact ok71 _ _ _ _ _ h1 h2 h3

/-- laws.sameFloat -/
noncomputable def r20 (x0 x1 : Nat) : Bool :=
 cond (!feq .f64 x0 x0)
  ((!feq .f64 x1 x1))
  (cond (!feq .f64 x1 x1)
  (false)
  (cond (feq .f64 x0 0)
  (cond (feq .f64 x1 0)
  (((fgt .f64 (fdiv .f64 4607182418800017408 x0) 0) == (fgt .f64 (fdiv .f64 4607182418800017408 x1) 0)))
  ((feq .f64 x0 x1)))
  ((feq .f64 x0 x1))))
noncomputable def a20 (x0 x1 : Nat) (p : Bool) : Res := firstT [(true, .bool p, st0)]
noncomputable def w20 (x0 x1 : Nat) : Res :=
 (cond (!feq .f64 x0 x0)
 (cond (!feq .f64 x0 x0)
  (a20 x0 x1 ((!feq .f64 x1 x1)))
  (some (.bool false, st0)))
 (cond (!feq .f64 x1 x1)
  (cond (!feq .f64 x0 x0)
  (some (.bool (!feq .f64 x1 x1), st0))
  (a20 x0 x1 (false)))
  (cond (feq .f64 x0 0)
  (cond (feq .f64 x1 0)
  (a20 x0 x1 (((fgt .f64 (fdiv .f64 4607182418800017408 x0) 0) == (fgt .f64 (fdiv .f64 4607182418800017408 x1) 0))))
  (a20 x0 x1 ((feq .f64 x0 x1))))
  (a20 x0 x1 ((feq .f64 x0 x1))))))
set_option maxRecDepth 100000 in
set_option maxHeartbeats 4000000 in
theorem e20 (x0 x1 : Nat) : evFn Try.prog ext T72 noL 200 Try.f20 [.float .f64 x0, .float .f64 x1] st0 = firstT [(true, .bool (r20 x0 x1), st0)] :=
 (show evFn Try.prog ext T72 noL 200 Try.f20 [.float .f64 x0, .float .f64 x1] st0 = w20 x0 x1 from by kernel_rfl).trans
 (show w20 x0 x1 = a20 x0 x1 (r20 x0 x1) from by unfold w20 r20; exact (cond_both (a20 x0 x1) _ (fun h0 => (cond_t (ev_not1 (ev_nott h0)) rfl)) (fun h0 => (cond_both (a20 x0 x1) _ (fun h1 => (cond_f (ev_not0 (ev_notf h0)) rfl)) (fun h1 => (cond_app (a20 x0 x1) _ (cond_app (a20 x0 x1) _ rfl rfl) rfl))))))
noncomputable def s20 (args : List Value) (s : St) : List (Bool × Value × St) :=
 match args, s.h with
 | [.float .f64 x0, .float .f64 x1], [] => [(true, .bool (r20 x0 x1), st0)]
 | _, _ => T72 20 args s
noncomputable def T73 : CallF := addF T72 20 s20
set_option maxRecDepth 100000 in
set_option maxHeartbeats 4000000 in
theorem ok73 : CfOk Try.prog T73 := by
  refine cfOk_add ok72 fun args s r s' h1 h2 h3 => ?_
  unfold s20 at h3; split at h3
  · rename_i h; exact callOk ok72 Try.func20 h1 h2 h (lfOkF_no _ _).body (e20 _ _) rfl h3
  · exact ok72 _ _ _ _ _ h1 h2 h3

/-- laws.eqSpan -/
noncomputable def r38 (x0 x1 x2 x3 : Nat) : Bool :=
 cond (!(r20 (widen x0) (widen x2)))
  (false)
  (cond (!(r20 (widen x1) (widen x3)))
  (false)
  (true))
noncomputable def a38 (x0 x1 x2 x3 : Nat) (p : Bool) : Res := firstT [(true, .bool p, st0)]
noncomputable def w38 (x0 x1 x2 x3 : Nat) : Res :=
 (cond (!(r20 (widen x0) (widen x2)))
 (a38 x0 x1 x2 x3 (false))
 (cond (!(r20 (widen x1) (widen x3)))
  (a38 x0 x1 x2 x3 (false))
  (a38 x0 x1 x2 x3 (true))))
set_option maxRecDepth 100000 in
set_option maxHeartbeats 4000000 in
theorem e38 (x0 x1 x2 x3 : Nat) : evFn Try.prog ext T73 noL 200 Try.f38 [.agg #[.float .f32 x0, .float .f32 x1], .agg #[.float .f32 x2, .float .f32 x3]] st0 = firstT [(true, .bool (r38 x0 x1 x2 x3), st0)] :=
 (show evFn Try.prog ext T73 noL 200 Try.f38 [.agg #[.float .f32 x0, .float .f32 x1], .agg #[.float .f32 x2, .float .f32 x3]] st0 = w38 x0 x1 x2 x3 from by kernel_rfl).trans
 (show w38 x0 x1 x2 x3 = a38 x0 x1 x2 x3 (r38 x0 x1 x2 x3) from by unfold w38 r38; exact (cond_app (a38 x0 x1 x2 x3) _ rfl (cond_app (a38 x0 x1 x2 x3) _ rfl rfl)))
noncomputable def s38 (args : List Value) (s : St) : List (Bool × Value × St) :=
 match args, s.h with
 | [.agg ⟨[.float .f32 x0, .float .f32 x1]⟩, .agg ⟨[.float .f32 x2, .float .f32 x3]⟩], [] => [(true, .bool (r38 x0 x1 x2 x3), st0)]
 | _, _ => T73 38 args s
noncomputable def T74 : CallF := addF T73 38 s38
set_option maxRecDepth 100000 in
set_option maxHeartbeats 4000000 in
theorem ok74 : CfOk Try.prog T74 := by
  refine cfOk_add ok73 fun args s r s' h1 h2 h3 => ?_
  unfold s38 at h3; split at h3
  · rename_i h; exact callOk ok73 Try.func38 h1 h2 h (lfOkF_no _ _).body (e38 _ _ _ _) rfl h3
  · exact ok73 _ _ _ _ _ h1 h2 h3

/-- laws.eqStringS, loop 0: one round -/
noncomputable def b46l0 (ih : Int → List ByteArray → List ByteArray → Nat) (x0 : Int) (x1 x2 : List ByteArray) : Nat :=
 cond (decide ((x0 : Int) < ((x1.length : Nat) : Int)))
  (cond ((decide ((0 : Int) ≤ x0)) && (Nat.blt (Int.toNat x0) x1.length))
  (cond ((decide ((0 : Int) ≤ x0)) && (Nat.blt (Int.toNat x0) x2.length))
  (cond (!((x1.getD (Int.toNat x0) .empty).toList == (x2.getD (Int.toNat x0) .empty).toList))
  (0)
  (ih (IntKind.i64.wrap (x0 + 1)) x1 x2))
  (2))
  (2))
  (1)
noncomputable def r46l0 : Nat → Int → List ByteArray → List ByteArray → Nat
 | 0 => fun _ _ _ => (2)
 | m + 1 => b46l0 (r46l0 m)
noncomputable def a46l0 (x0 : Int) (x1 x2 : List ByteArray) (p : Nat) : Option (Fin' × List Value × St) := firstT ([((Nat.beq p 0), .ret, [.bool false], ⟨[⟨true, (some (.strs x1))⟩, ⟨true, (some (.strs x2))⟩], 2, []⟩), ((Nat.beq p 1), .exit 0, [anyV], ⟨[⟨true, (some (.strs x1))⟩, ⟨true, (some (.strs x2))⟩], 2, []⟩)].map fun (b, x) => (b, (x.1, frameOf 26 [4] x.2.1, x.2.2)))
noncomputable def u46l0 (x0 : Int) (x1 x2 : List ByteArray) (p : Nat) : Option (Fin' × List Value × St) := alts ([((Nat.beq p 0), .ret, [.bool false], ⟨[⟨true, (some (.strs x1))⟩, ⟨true, (some (.strs x2))⟩], 2, []⟩), ((Nat.beq p 1), .exit 0, [anyV], ⟨[⟨true, (some (.strs x1))⟩, ⟨true, (some (.strs x2))⟩], 2, []⟩)].map fun (b, x) => (b, (x.1, frameOf 26 [4] x.2.1, x.2.2))) some
theorem v46l0 (x0 : Int) (x1 x2 : List ByteArray) (p : Nat) : u46l0 x0 x1 x2 p = a46l0 x0 x1 x2 p := alts_first _
noncomputable def q46l0 (m : Nat) : SumK := fun vals s =>
 match vals, s.h with
 | [.iface f0 .nilIface, .iface f1 .nilIface, .int .i64 x0], [⟨true, some (.strs x1)⟩, ⟨true, some (.strs x2)⟩] => if f0 = 0 ∧ f1 = 1 then [((Nat.beq (r46l0 m x0 x1 x2) 0), .ret, [.bool false], ⟨[⟨true, (some (.strs x1))⟩, ⟨true, (some (.strs x2))⟩], 2, []⟩), ((Nat.beq (r46l0 m x0 x1 x2) 1), .exit 0, [anyV], ⟨[⟨true, (some (.strs x1))⟩, ⟨true, (some (.strs x2))⟩], 2, []⟩)] else noQ vals s
 | _, _ => noQ vals s
noncomputable def w46l0 (ih : Int → List ByteArray → List ByteArray → Nat) (x0 : Int) (x1 x2 : List ByteArray) : Option (Fin' × List Value × St) :=
 (cond (decide ((x0 : Int) < ((x1.length : Nat) : Int)))
 (cond ((decide ((0 : Int) ≤ x0)) && (Nat.blt (Int.toNat x0) x1.length))
  (cond (Nat.blt (Int.toNat x0) x1.length)
  (cond ((decide ((0 : Int) ≤ x0)) && (Nat.blt (Int.toNat x0) x2.length))
  (cond (Nat.blt (Int.toNat x0) x2.length)
  (cond (!((x1.getD (Int.toNat x0) .empty).toList == (x2.getD (Int.toNat x0) .empty).toList))
  (a46l0 x0 x1 x2 (0))
  (u46l0 x0 x1 x2 (ih (IntKind.i64.wrap (x0 + 1)) x1 x2)))
  none)
  none)
  none)
  none)
 (a46l0 x0 x1 x2 (1)))
set_option maxRecDepth 100000 in
set_option maxHeartbeats 4000000 in
theorem e46l0 (m : Nat) (x0 : Int) (x1 x2 : List ByteArray) : evC Try.prog ext T74 noL 200 (loopN Try.f46 0) (loopTail ([0, 1, 5], []) [4] [] (sumK 26 [0, 1, 5] [4] (q46l0 m))) (frameOf 26 [0, 1, 5] [wsl 0, wsl 1, .int .i64 x0]) ⟨[⟨true, (some (.strs x1))⟩, ⟨true, (some (.strs x2))⟩], 2, []⟩ = firstT ([((Nat.beq (r46l0 (m + 1) x0 x1 x2) 0), .ret, [.bool false], ⟨[⟨true, (some (.strs x1))⟩, ⟨true, (some (.strs x2))⟩], 2, []⟩), ((Nat.beq (r46l0 (m + 1) x0 x1 x2) 1), .exit 0, [anyV], ⟨[⟨true, (some (.strs x1))⟩, ⟨true, (some (.strs x2))⟩], 2, []⟩)].map fun (b, x) => (b, (x.1, frameOf 26 [4] x.2.1, x.2.2))) :=
 (show evC Try.prog ext T74 noL 200 (loopN Try.f46 0) (loopTail ([0, 1, 5], []) [4] [] (sumK 26 [0, 1, 5] [4] (q46l0 m))) (frameOf 26 [0, 1, 5] [wsl 0, wsl 1, .int .i64 x0]) ⟨[⟨true, (some (.strs x1))⟩, ⟨true, (some (.strs x2))⟩], 2, []⟩ = w46l0 (r46l0 m) x0 x1 x2 from by kernel_rfl).trans
 (show w46l0 (r46l0 m) x0 x1 x2 = a46l0 x0 x1 x2 (r46l0 (m + 1) x0 x1 x2) from by unfold w46l0; show _ = a46l0 x0 x1 x2 (b46l0 (r46l0 m) x0 x1 x2); unfold b46l0; exact (cond_both (a46l0 x0 x1 x2) _ (fun h0 => (cond_both (a46l0 x0 x1 x2) _ (fun h1 => (cond_t (ev_and2 h1) (cond_both (a46l0 x0 x1 x2) _ (fun h2 => (cond_t (ev_and2 h2) (cond_app (a46l0 x0 x1 x2) _ rfl (v46l0 x0 x1 x2 ((r46l0 m) (IntKind.i64.wrap (x0 + 1)) x1 x2))))) (fun h2 => rfl)))) (fun h1 => rfl))) (fun h0 => rfl)))
set_option maxRecDepth 100000 in
set_option maxHeartbeats 4000000 in
theorem qm46l0 : ∀ m, SumKOk Try.prog (loopN Try.f46 0) 26 [0, 1, 5] [4] (q46l0 m) := by
  intro m
  induction m with
  | zero =>
    intro vals s x h1 h2 h3
    unfold q46l0 at h3; split at h3
    · rename_i h; split at h3
      · rename_i hc; obtain ⟨rfl, rfl⟩ := hc; exact absurd h3 (by simp [r46l0, firstT, Nat.beq])
      · exact noQ_ok _ _ _ h1 h2 h3
    · exact noQ_ok _ _ _ h1 h2 h3
  | succ m ih =>
    intro vals s x h1 h2 h3
    unfold q46l0 at h3; split at h3
    · rename_i h; split at h3
      · rename_i hc; obtain ⟨rfl, rfl⟩ := hc; exact sum_step ok74 extOk mixed ((lfOkF_no _ _).inner (by kernel_rfl)) ih h1 h2 h (e46l0 m _ _ _) rfl h3
      · exact noQ_ok _ _ _ h1 h2 h3
    · exact noQ_ok _ _ _ h1 h2 h3
noncomputable def Q46l0 : SumK := fun vals s => q46l0 (fuelOf vals s.h) vals s
theorem qok46l0 : SumKOk Try.prog (loopN Try.f46 0) 26 [0, 1, 5] [4] Q46l0 := fuel_ok qm46l0 fuelOf
noncomputable def L46_1 : LoopT := addL noL 5 ([0, 1, 5], []) (sumK 26 [0, 1, 5] [4] Q46l0)
theorem lok46_1 : LfOkF Try.prog L46_1 Try.f46 := lfOkF_add (lfOkF_no _ _) qok46l0 (by kernel_rfl) (by kernel_rfl) (by kernel_rfl)

/-- laws.eqStringS -/
noncomputable def r46 (x0 x1 : List ByteArray) : Nat × Bool :=
 cond ((((x0.length : Nat) : Int) : Int) != ((x1.length : Nat) : Int))
  (0, false)
  (cond (Nat.beq (r46l0 (1000 + x1.length + x0.length) 0 x0 x1) 0)
  (0, false)
  (cond (Nat.beq (r46l0 (1000 + x1.length + x0.length) 0 x0 x1) 1)
  (0, true)
  (1, false)))
noncomputable def a46 (x0 x1 : List ByteArray) (p : Nat × Bool) : Res := firstT [((Nat.beq (p.1) 0), .bool (p.2), ⟨[⟨true, (some (.strs x0))⟩, ⟨true, (some (.strs x1))⟩], 2, []⟩)]
noncomputable def w46 (x0 x1 : List ByteArray) : Res :=
 (cond ((((x0.length : Nat) : Int) : Int) != ((x1.length : Nat) : Int))
 (a46 x0 x1 (0, false))
 (cond (Nat.beq (r46l0 (1000 + x1.length + x0.length) 0 x0 x1) 0)
  (a46 x0 x1 (0, false))
  (cond (Nat.beq (r46l0 (1000 + x1.length + x0.length) 0 x0 x1) 1)
  (a46 x0 x1 (0, true))
  none)))
set_option maxRecDepth 100000 in
set_option maxHeartbeats 4000000 in
theorem e46 (x0 x1 : List ByteArray) : evFn Try.prog ext T74 L46_1 200 Try.f46 [wsl 0, wsl 1] ⟨[⟨true, (some (.strs x0))⟩, ⟨true, (some (.strs x1))⟩], 2, []⟩ = firstT [((Nat.beq ((r46 x0 x1).1) 0), .bool ((r46 x0 x1).2), ⟨[⟨true, (some (.strs x0))⟩, ⟨true, (some (.strs x1))⟩], 2, []⟩)] :=
 (show evFn Try.prog ext T74 L46_1 200 Try.f46 [wsl 0, wsl 1] ⟨[⟨true, (some (.strs x0))⟩, ⟨true, (some (.strs x1))⟩], 2, []⟩ = w46 x0 x1 from by kernel_rfl).trans
 (show w46 x0 x1 = a46 x0 x1 (r46 x0 x1) from by unfold w46 r46; exact (cond_app (a46 x0 x1) _ rfl (cond_app (a46 x0 x1) _ rfl (cond_app (a46 x0 x1) _ rfl rfl))))
noncomputable def s46 (args : List Value) (s : St) : List (Bool × Value × St) :=
 match args, s.h with
 | [.iface f0 .nilIface, .iface f1 .nilIface], [⟨true, some (.strs x0)⟩, ⟨true, some (.strs x1)⟩] => if f0 = 0 ∧ f1 = 1 then [((Nat.beq ((r46 x0 x1).1) 0), .bool ((r46 x0 x1).2), ⟨[⟨true, (some (.strs x0))⟩, ⟨true, (some (.strs x1))⟩], 2, []⟩)] else T74 46 args s
 | _, _ => T74 46 args s
noncomputable def T75 : CallF := addF T74 46 s46
set_option maxRecDepth 100000 in
set_option maxHeartbeats 4000000 in
theorem ok75 : CfOk Try.prog T75 := by
  refine cfOk_add ok74 fun args s r s' h1 h2 h3 => ?_
  unfold s46 at h3; split at h3
  · rename_i h; split at h3
    · rename_i hc; obtain ⟨rfl, rfl⟩ := hc; exact callOk ok74 Try.func46 h1 h2 h lok46_1.body (e46 _ _) rfl h3
    · exact ok74 _ _ _ _ _ h1 h2 h3
  · exact ok74 _ _ _ _ _ h1 h2 h3

/-- laws.eqOp -/
noncomputable def r74 (x0 x1 : Int) (x2 : Nat) (x3 x4 : Int) (x5 : Nat) : Bool :=
 cond ((x0 : Int) != x3)
  (false)
  (cond ((x1 : Int) != x4)
  (false)
  (cond (!(r20 (widen x2) (widen x5)))
  (false)
  (true)))
noncomputable def a74 (x0 x1 : Int) (x2 : Nat) (x3 x4 : Int) (x5 : Nat) (p : Bool) : Res := firstT [(true, .bool p, st0)]
noncomputable def w74 (x0 x1 : Int) (x2 : Nat) (x3 x4 : Int) (x5 : Nat) : Res :=
 (cond ((x0 : Int) != x3)
 (a74 x0 x1 x2 x3 x4 x5 (false))
 (cond ((x1 : Int) != x4)
  (a74 x0 x1 x2 x3 x4 x5 (false))
  (cond (!(r20 (widen x2) (widen x5)))
  (a74 x0 x1 x2 x3 x4 x5 (false))
  (a74 x0 x1 x2 x3 x4 x5 (true)))))
set_option maxRecDepth 100000 in
set_option maxHeartbeats 4000000 in
theorem e74 (x0 x1 : Int) (x2 : Nat) (x3 x4 : Int) (x5 : Nat) : evFn Try.prog ext T75 noL 200 Try.f74 [.agg #[.int .i8 x0, .int .i16 x1, .float .f32 x2], .agg #[.int .i8 x3, .int .i16 x4, .float .f32 x5]] st0 = firstT [(true, .bool (r74 x0 x1 x2 x3 x4 x5), st0)] :=
 (show evFn Try.prog ext T75 noL 200 Try.f74 [.agg #[.int .i8 x0, .int .i16 x1, .float .f32 x2], .agg #[.int .i8 x3, .int .i16 x4, .float .f32 x5]] st0 = w74 x0 x1 x2 x3 x4 x5 from by kernel_rfl).trans
 (show w74 x0 x1 x2 x3 x4 x5 = a74 x0 x1 x2 x3 x4 x5 (r74 x0 x1 x2 x3 x4 x5) from by unfold w74 r74; exact (cond_app (a74 x0 x1 x2 x3 x4 x5) _ rfl (cond_app (a74 x0 x1 x2 x3 x4 x5) _ rfl (cond_app (a74 x0 x1 x2 x3 x4 x5) _ rfl rfl))))
noncomputable def s74 (args : List Value) (s : St) : List (Bool × Value × St) :=
 match args, s.h with
 | [.agg ⟨[.int .i8 x0, .int .i16 x1, .float .f32 x2]⟩, .agg ⟨[.int .i8 x3, .int .i16 x4, .float .f32 x5]⟩], [] => [(true, .bool (r74 x0 x1 x2 x3 x4 x5), st0)]
 | _, _ => T75 74 args s
noncomputable def T76 : CallF := addF T75 74 s74
set_option maxRecDepth 100000 in
set_option maxHeartbeats 4000000 in
theorem ok76 : CfOk Try.prog T76 := by
  refine cfOk_add ok75 fun args s r s' h1 h2 h3 => ?_
  unfold s74 at h3; split at h3
  · rename_i h; exact callOk ok75 Try.func74 h1 h2 h (lfOkF_no _ _).body (e74 _ _ _ _ _ _) rfl h3
  · exact ok75 _ _ _ _ _ h1 h2 h3

/-- laws.eqOpS, loop 0: one round -/
noncomputable def b47l0 (ih : Int → List (List Int) → List (List Int) → Nat) (x0 : Int) (x1 x2 : List (List Int)) : Nat :=
 let c2269 := (r74 ((x1.getD (Int.toNat x0) []).getD 0 0) ((x1.getD (Int.toNat x0) []).getD 1 0) (Int.toNat ((x1.getD (Int.toNat x0) []).getD 2 0)) ((x2.getD (Int.toNat x0) []).getD 0 0) ((x2.getD (Int.toNat x0) []).getD 1 0) (Int.toNat ((x2.getD (Int.toNat x0) []).getD 2 0)))
 cond (decide ((x0 : Int) < ((x1.length : Nat) : Int)))
  (cond ((decide ((0 : Int) ≤ x0)) && (Nat.blt (Int.toNat x0) x1.length))
  (cond ((decide ((0 : Int) ≤ x0)) && (Nat.blt (Int.toNat x0) x2.length))
  (cond (!c2269)
  (0)
  (ih (IntKind.i64.wrap (x0 + 1)) x1 x2))
  (2))
  (2))
  (1)
noncomputable def r47l0 : Nat → Int → List (List Int) → List (List Int) → Nat
 | 0 => fun _ _ _ => (2)
 | m + 1 => b47l0 (r47l0 m)
noncomputable def a47l0 (x0 : Int) (x1 x2 : List (List Int)) (p : Nat) : Option (Fin' × List Value × St) := firstT ([((Nat.beq p 0), .ret, [.bool false], ⟨[⟨true, (some (.tab [.int .i8, .int .i16, .fl .f32] x1))⟩, ⟨true, (some (.tab [.int .i8, .int .i16, .fl .f32] x2))⟩], 2, []⟩), ((Nat.beq p 1), .exit 0, [anyV], ⟨[⟨true, (some (.tab [.int .i8, .int .i16, .fl .f32] x1))⟩, ⟨true, (some (.tab [.int .i8, .int .i16, .fl .f32] x2))⟩], 2, []⟩)].map fun (b, x) => (b, (x.1, frameOf 27 [4] x.2.1, x.2.2)))
noncomputable def u47l0 (x0 : Int) (x1 x2 : List (List Int)) (p : Nat) : Option (Fin' × List Value × St) := alts ([((Nat.beq p 0), .ret, [.bool false], ⟨[⟨true, (some (.tab [.int .i8, .int .i16, .fl .f32] x1))⟩, ⟨true, (some (.tab [.int .i8, .int .i16, .fl .f32] x2))⟩], 2, []⟩), ((Nat.beq p 1), .exit 0, [anyV], ⟨[⟨true, (some (.tab [.int .i8, .int .i16, .fl .f32] x1))⟩, ⟨true, (some (.tab [.int .i8, .int .i16, .fl .f32] x2))⟩], 2, []⟩)].map fun (b, x) => (b, (x.1, frameOf 27 [4] x.2.1, x.2.2))) some
theorem v47l0 (x0 : Int) (x1 x2 : List (List Int)) (p : Nat) : u47l0 x0 x1 x2 p = a47l0 x0 x1 x2 p := alts_first _
noncomputable def q47l0 (m : Nat) : SumK := fun vals s =>
 match vals, s.h with
 | [.iface f0 .nilIface, .iface f1 .nilIface, .int .i64 x0], [⟨true, some (.tab [.int .i8, .int .i16, .fl .f32] x1)⟩, ⟨true, some (.tab [.int .i8, .int .i16, .fl .f32] x2)⟩] => if f0 = 0 ∧ f1 = 1 then [((Nat.beq (r47l0 m x0 x1 x2) 0), .ret, [.bool false], ⟨[⟨true, (some (.tab [.int .i8, .int .i16, .fl .f32] x1))⟩, ⟨true, (some (.tab [.int .i8, .int .i16, .fl .f32] x2))⟩], 2, []⟩), ((Nat.beq (r47l0 m x0 x1 x2) 1), .exit 0, [anyV], ⟨[⟨true, (some (.tab [.int .i8, .int .i16, .fl .f32] x1))⟩, ⟨true, (some (.tab [.int .i8, .int .i16, .fl .f32] x2))⟩], 2, []⟩)] else noQ vals s
 | _, _ => noQ vals s
noncomputable def w47l0 (ih : Int → List (List Int) → List (List Int) → Nat) (x0 : Int) (x1 x2 : List (List Int)) : Option (Fin' × List Value × St) :=
 let c2269 := (r74 ((x1.getD (Int.toNat x0) []).getD 0 0) ((x1.getD (Int.toNat x0) []).getD 1 0) (Int.toNat ((x1.getD (Int.toNat x0) []).getD 2 0)) ((x2.getD (Int.toNat x0) []).getD 0 0) ((x2.getD (Int.toNat x0) []).getD 1 0) (Int.toNat ((x2.getD (Int.toNat x0) []).getD 2 0)))
 (cond (decide ((x0 : Int) < ((x1.length : Nat) : Int)))
 (cond ((decide ((0 : Int) ≤ x0)) && (Nat.blt (Int.toNat x0) x1.length))
  (cond (Nat.blt (Int.toNat x0) x1.length)
  (cond ((decide ((0 : Int) ≤ x0)) && (Nat.blt (Int.toNat x0) x2.length))
  (cond (Nat.blt (Int.toNat x0) x2.length)
  (cond (!c2269)
  (a47l0 x0 x1 x2 (0))
  (u47l0 x0 x1 x2 (ih (IntKind.i64.wrap (x0 + 1)) x1 x2)))
  none)
  none)
  none)
  none)
 (a47l0 x0 x1 x2 (1)))
set_option maxRecDepth 100000 in
set_option maxHeartbeats 4000000 in
theorem e47l0 (m : Nat) (x0 : Int) (x1 x2 : List (List Int)) : evC Try.prog ext T76 noL 200 (loopN Try.f47 0) (loopTail ([0, 1, 5], []) [4] [] (sumK 27 [0, 1, 5] [4] (q47l0 m))) (frameOf 27 [0, 1, 5] [wsl 0, wsl 1, .int .i64 x0]) ⟨[⟨true, (some (.tab [.int .i8, .int .i16, .fl .f32] x1))⟩, ⟨true, (some (.tab [.int .i8, .int .i16, .fl .f32] x2))⟩], 2, []⟩ = firstT ([((Nat.beq (r47l0 (m + 1) x0 x1 x2) 0), .ret, [.bool false], ⟨[⟨true, (some (.tab [.int .i8, .int .i16, .fl .f32] x1))⟩, ⟨true, (some (.tab [.int .i8, .int .i16, .fl .f32] x2))⟩], 2, []⟩), ((Nat.beq (r47l0 (m + 1) x0 x1 x2) 1), .exit 0, [anyV], ⟨[⟨true, (some (.tab [.int .i8, .int .i16, .fl .f32] x1))⟩, ⟨true, (some (.tab [.int .i8, .int .i16, .fl .f32] x2))⟩], 2, []⟩)].map fun (b, x) => (b, (x.1, frameOf 27 [4] x.2.1, x.2.2))) :=
 (show evC Try.prog ext T76 noL 200 (loopN Try.f47 0) (loopTail ([0, 1, 5], []) [4] [] (sumK 27 [0, 1, 5] [4] (q47l0 m))) (frameOf 27 [0, 1, 5] [wsl 0, wsl 1, .int .i64 x0]) ⟨[⟨true, (some (.tab [.int .i8, .int .i16, .fl .f32] x1))⟩, ⟨true, (some (.tab [.int .i8, .int .i16, .fl .f32] x2))⟩], 2, []⟩ = w47l0 (r47l0 m) x0 x1 x2 from by kernel_rfl).trans
 (show w47l0 (r47l0 m) x0 x1 x2 = a47l0 x0 x1 x2 (r47l0 (m + 1) x0 x1 x2) from by unfold w47l0; show _ = a47l0 x0 x1 x2 (b47l0 (r47l0 m) x0 x1 x2); unfold b47l0; exact (cond_both (a47l0 x0 x1 x2) _ (fun h0 => (cond_both (a47l0 x0 x1 x2) _ (fun h1 => (cond_t (ev_and2 h1) (cond_both (a47l0 x0 x1 x2) _ (fun h2 => (cond_t (ev_and2 h2) (cond_app (a47l0 x0 x1 x2) _ rfl (v47l0 x0 x1 x2 ((r47l0 m) (IntKind.i64.wrap (x0 + 1)) x1 x2))))) (fun h2 => rfl)))) (fun h1 => rfl))) (fun h0 => rfl)))
set_option maxRecDepth 100000 in
set_option maxHeartbeats 4000000 in
theorem qm47l0 : ∀ m, SumKOk Try.prog (loopN Try.f47 0) 27 [0, 1, 5] [4] (q47l0 m) := by
  intro m
  induction m with
  | zero =>
    intro vals s x h1 h2 h3
    unfold q47l0 at h3; split at h3
    · rename_i h; split at h3
      · rename_i hc; obtain ⟨rfl, rfl⟩ := hc; exact absurd h3 (by simp [r47l0, firstT, Nat.beq])
      · exact noQ_ok _ _ _ h1 h2 h3
    · exact noQ_ok _ _ _ h1 h2 h3
  | succ m ih =>
    intro vals s x h1 h2 h3
    unfold q47l0 at h3; split at h3
    · rename_i h; split at h3
      · rename_i hc; obtain ⟨rfl, rfl⟩ := hc; exact sum_step ok76 extOk mixed ((lfOkF_no _ _).inner (by kernel_rfl)) ih h1 h2 h (e47l0 m _ _ _) rfl h3
      · exact noQ_ok _ _ _ h1 h2 h3
    · exact noQ_ok _ _ _ h1 h2 h3
noncomputable def Q47l0 : SumK := fun vals s => q47l0 (fuelOf vals s.h) vals s
theorem qok47l0 : SumKOk Try.prog (loopN Try.f47 0) 27 [0, 1, 5] [4] Q47l0 := fuel_ok qm47l0 fuelOf
noncomputable def L47_1 : LoopT := addL noL 5 ([0, 1, 5], []) (sumK 27 [0, 1, 5] [4] Q47l0)
theorem lok47_1 : LfOkF Try.prog L47_1 Try.f47 := lfOkF_add (lfOkF_no _ _) qok47l0 (by kernel_rfl) (by kernel_rfl) (by kernel_rfl)

/-- laws.eqOpS -/
noncomputable def r47 (x0 x1 : List (List Int)) : Nat × Bool :=
 cond ((((x0.length : Nat) : Int) : Int) != ((x1.length : Nat) : Int))
  (0, false)
  (cond (Nat.beq (r47l0 (1000 + x1.length + x0.length) 0 x0 x1) 0)
  (0, false)
  (cond (Nat.beq (r47l0 (1000 + x1.length + x0.length) 0 x0 x1) 1)
  (0, true)
  (1, false)))
noncomputable def a47 (x0 x1 : List (List Int)) (p : Nat × Bool) : Res := firstT [((Nat.beq (p.1) 0), .bool (p.2), ⟨[⟨true, (some (.tab [.int .i8, .int .i16, .fl .f32] x0))⟩, ⟨true, (some (.tab [.int .i8, .int .i16, .fl .f32] x1))⟩], 2, []⟩)]
noncomputable def w47 (x0 x1 : List (List Int)) : Res :=
 (cond ((((x0.length : Nat) : Int) : Int) != ((x1.length : Nat) : Int))
 (a47 x0 x1 (0, false))
 (cond (Nat.beq (r47l0 (1000 + x1.length + x0.length) 0 x0 x1) 0)
  (a47 x0 x1 (0, false))
  (cond (Nat.beq (r47l0 (1000 + x1.length + x0.length) 0 x0 x1) 1)
  (a47 x0 x1 (0, true))
  none)))
set_option maxRecDepth 100000 in
set_option maxHeartbeats 4000000 in
theorem e47 (x0 x1 : List (List Int)) : evFn Try.prog ext T76 L47_1 200 Try.f47 [wsl 0, wsl 1] ⟨[⟨true, (some (.tab [.int .i8, .int .i16, .fl .f32] x0))⟩, ⟨true, (some (.tab [.int .i8, .int .i16, .fl .f32] x1))⟩], 2, []⟩ = firstT [((Nat.beq ((r47 x0 x1).1) 0), .bool ((r47 x0 x1).2), ⟨[⟨true, (some (.tab [.int .i8, .int .i16, .fl .f32] x0))⟩, ⟨true, (some (.tab [.int .i8, .int .i16, .fl .f32] x1))⟩], 2, []⟩)] :=
 (show evFn Try.prog ext T76 L47_1 200 Try.f47 [wsl 0, wsl 1] ⟨[⟨true, (some (.tab [.int .i8, .int .i16, .fl .f32] x0))⟩, ⟨true, (some (.tab [.int .i8, .int .i16, .fl .f32] x1))⟩], 2, []⟩ = w47 x0 x1 from by kernel_rfl).trans
 (show w47 x0 x1 = a47 x0 x1 (r47 x0 x1) from by unfold w47 r47; exact (cond_app (a47 x0 x1) _ rfl (cond_app (a47 x0 x1) _ rfl (cond_app (a47 x0 x1) _ rfl rfl))))
noncomputable def s47 (args : List Value) (s : St) : List (Bool × Value × St) :=
 match args, s.h with
 | [.iface f0 .nilIface, .iface f1 .nilIface], [⟨true, some (.tab [.int .i8, .int .i16, .fl .f32] x0)⟩, ⟨true, some (.tab [.int .i8, .int .i16, .fl .f32] x1)⟩] => if f0 = 0 ∧ f1 = 1 then [((Nat.beq ((r47 x0 x1).1) 0), .bool ((r47 x0 x1).2), ⟨[⟨true, (some (.tab [.int .i8, .int .i16, .fl .f32] x0))⟩, ⟨true, (some (.tab [.int .i8, .int .i16, .fl .f32] x1))⟩], 2, []⟩)] else T76 47 args s
 | _, _ => T76 47 args s
noncomputable def T77 : CallF := addF T76 47 s47
set_option maxRecDepth 100000 in
set_option maxHeartbeats 4000000 in
theorem ok77 : CfOk Try.prog T77 := by
  refine cfOk_add ok76 fun args s r s' h1 h2 h3 => ?_
  unfold s47 at h3; split at h3
  · rename_i h; split at h3
    · rename_i hc; obtain ⟨rfl, rfl⟩ := hc; exact callOk ok76 Try.func47 h1 h2 h lok47_1.body (e47 _ _) rfl h3
    · exact ok76 _ _ _ _ _ h1 h2 h3
  · exact ok76 _ _ _ _ _ h1 h2 h3

/-- laws.eqProgram -/
noncomputable def r14 (x0 : List ByteArray) (x1 : List (List Int)) (x2 : List ByteArray) (x3 : List (List Int)) : Nat × Bool :=
 cond (Nat.beq ((r46 x0 x2).1) 0)
  (cond (!((r46 x0 x2).2))
  (0, false)
  (cond (Nat.beq ((r47 x1 x3).1) 0)
  (cond (!((r47 x1 x3).2))
  (0, false)
  (0, true))
  (1, false)))
  (1, false)
noncomputable def a14 (x0 : List ByteArray) (x1 : List (List Int)) (x2 : List ByteArray) (x3 : List (List Int)) (p : Nat × Bool) : Res := firstT [((Nat.beq (p.1) 0), .bool (p.2), ⟨[⟨true, (some (.strs x0))⟩, ⟨true, (some (.tab [.int .i8, .int .i16, .fl .f32] x1))⟩, ⟨true, (some (.strs x2))⟩, ⟨true, (some (.tab [.int .i8, .int .i16, .fl .f32] x3))⟩], 4, []⟩)]
noncomputable def w14 (x0 : List ByteArray) (x1 : List (List Int)) (x2 : List ByteArray) (x3 : List (List Int)) : Res :=
 (cond (Nat.beq ((r46 x0 x2).1) 0)
 (cond (!((r46 x0 x2).2))
  (a14 x0 x1 x2 x3 (0, false))
  (cond (Nat.beq ((r47 x1 x3).1) 0)
  (cond (!((r47 x1 x3).2))
  (a14 x0 x1 x2 x3 (0, false))
  (a14 x0 x1 x2 x3 (0, true)))
  none))
 none)
set_option maxRecDepth 100000 in
set_option maxHeartbeats 4000000 in
theorem e14 (x0 : List ByteArray) (x1 : List (List Int)) (x2 : List ByteArray) (x3 : List (List Int)) : evFn Try.prog ext T77 noL 200 Try.f14 [.agg #[wsl 0, wsl 1], .agg #[wsl 2, wsl 3]] ⟨[⟨true, (some (.strs x0))⟩, ⟨true, (some (.tab [.int .i8, .int .i16, .fl .f32] x1))⟩, ⟨true, (some (.strs x2))⟩, ⟨true, (some (.tab [.int .i8, .int .i16, .fl .f32] x3))⟩], 4, []⟩ = firstT [((Nat.beq ((r14 x0 x1 x2 x3).1) 0), .bool ((r14 x0 x1 x2 x3).2), ⟨[⟨true, (some (.strs x0))⟩, ⟨true, (some (.tab [.int .i8, .int .i16, .fl .f32] x1))⟩, ⟨true, (some (.strs x2))⟩, ⟨true, (some (.tab [.int .i8, .int .i16, .fl .f32] x3))⟩], 4, []⟩)] :=
 (show evFn Try.prog ext T77 noL 200 Try.f14 [.agg #[wsl 0, wsl 1], .agg #[wsl 2, wsl 3]] ⟨[⟨true, (some (.strs x0))⟩, ⟨true, (some (.tab [.int .i8, .int .i16, .fl .f32] x1))⟩, ⟨true, (some (.strs x2))⟩, ⟨true, (some (.tab [.int .i8, .int .i16, .fl .f32] x3))⟩], 4, []⟩ = w14 x0 x1 x2 x3 from by kernel_rfl).trans
 (show w14 x0 x1 x2 x3 = a14 x0 x1 x2 x3 (r14 x0 x1 x2 x3) from by unfold w14 r14; exact (cond_app (a14 x0 x1 x2 x3) _ (cond_app (a14 x0 x1 x2 x3) _ rfl (cond_app (a14 x0 x1 x2 x3) _ (cond_app (a14 x0 x1 x2 x3) _ rfl rfl) rfl)) rfl))
noncomputable def s14 (args : List Value) (s : St) : List (Bool × Value × St) :=
 match args, s.h with
 | [.agg ⟨[.iface f0 .nilIface, .iface f1 .nilIface]⟩, .agg ⟨[.iface f2 .nilIface, .iface f3 .nilIface]⟩], [⟨true, some (.strs x0)⟩, ⟨true, some (.tab [.int .i8, .int .i16, .fl .f32] x1)⟩, ⟨true, some (.strs x2)⟩, ⟨true, some (.tab [.int .i8, .int .i16, .fl .f32] x3)⟩] => if f0 = 0 ∧ f1 = 1 ∧ f2 = 2 ∧ f3 = 3 then [((Nat.beq ((r14 x0 x1 x2 x3).1) 0), .bool ((r14 x0 x1 x2 x3).2), ⟨[⟨true, (some (.strs x0))⟩, ⟨true, (some (.tab [.int .i8, .int .i16, .fl .f32] x1))⟩, ⟨true, (some (.strs x2))⟩, ⟨true, (some (.tab [.int .i8, .int .i16, .fl .f32] x3))⟩], 4, []⟩)] else T77 14 args s
 | _, _ => T77 14 args s
noncomputable def T78 : CallF := addF T77 14 s14
set_option maxRecDepth 100000 in
set_option maxHeartbeats 4000000 in
theorem ok78 : CfOk Try.prog T78 := by
  refine cfOk_add ok77 fun args s r s' h1 h2 h3 => ?_
  unfold s14 at h3; split at h3
  · rename_i h; split at h3
    · rename_i hc; obtain ⟨rfl, rfl, rfl, rfl⟩ := hc; exact callOk ok77 Try.func14 h1 h2 h (lfOkF_no _ _).body (e14 _ _ _ _) rfl h3
    · exact ok77 _ _ _ _ _ h1 h2 h3
  · exact ok77 _ _ _ _ _ h1 h2 h3

/-- laws.FnExactNarrowInput -/
noncomputable def r9 (x0 x1 x2 x3 x4 x5 x6 x7 : Nat) (x8 : Int) (x9 : ByteArray) (x10 x11 : Nat) (x12 : Int) (x13 : List ByteArray) (x14 : List (List Int)) : Nat × Bool :=
 let c2252 := (r38 ((r37 x0 x1 x2 x3 x4 x5 x6 x7 x8 x9 x10 x11 x12 ((r12 x13 x14).2.1) ((r12 x13 x14).2.2)).2.1) ((r37 x0 x1 x2 x3 x4 x5 x6 x7 x8 x9 x10 x11 x12 ((r12 x13 x14).2.1) ((r12 x13 x14).2.2)).2.2.1) ((r36 x0 x1 x2 x3 x4 x5 x6 x7 x8 x9 x10 x11 x12 ((r12 x13 x14).2.1) ((r12 x13 x14).2.2)).2.1) ((r36 x0 x1 x2 x3 x4 x5 x6 x7 x8 x9 x10 x11 x12 ((r12 x13 x14).2.1) ((r12 x13 x14).2.2)).2.2.1))
 cond (decide (((((x9.size) : Nat) : Int) : Int) > 1048576))
  (0, true)
  (cond (Nat.beq ((r10 1048576 x13 x14).1) 0)
  (cond (decide ((((r10 1048576 x13 x14).2) : Int) < 0))
  (0, true)
  (cond (Nat.beq ((r12 x13 x14).1) 0)
  (cond (Nat.beq ((r36 x0 x1 x2 x3 x4 x5 x6 x7 x8 x9 x10 x11 x12 ((r12 x13 x14).2.1) ((r12 x13 x14).2.2)).1) 0)
  (cond (Nat.beq ((r37 x0 x1 x2 x3 x4 x5 x6 x7 x8 x9 x10 x11 x12 ((r12 x13 x14).2.1) ((r12 x13 x14).2.2)).1) 0)
  (cond (!c2252)
  (0, false)
  (cond ((((r37 x0 x1 x2 x3 x4 x5 x6 x7 x8 x9 x10 x11 x12 ((r12 x13 x14).2.1) ((r12 x13 x14).2.2)).2.2.2) : Int) != ((r36 x0 x1 x2 x3 x4 x5 x6 x7 x8 x9 x10 x11 x12 ((r12 x13 x14).2.1) ((r12 x13 x14).2.2)).2.2.2))
  (0, false)
  (cond (Nat.beq ((r14 ((r12 x13 x14).2.1) ((r12 x13 x14).2.2) ((r12 x13 x14).2.1) ((r12 x13 x14).2.2)).1) 0)
  (cond (!((r14 ((r12 x13 x14).2.1) ((r12 x13 x14).2.2) ((r12 x13 x14).2.1) ((r12 x13 x14).2.2)).2))
  (0, false)
  (0, true))
  (1, false))))
  (1, false))
  (1, false))
  (1, false)))
  (1, false))
noncomputable def a9 (x0 x1 x2 x3 x4 x5 x6 x7 : Nat) (x8 : Int) (x9 : ByteArray) (x10 x11 : Nat) (x12 : Int) (x13 : List ByteArray) (x14 : List (List Int)) (p : Nat × Bool) : Res := firstT [((Nat.beq (p.1) 0), .bool (p.2), ⟨[⟨false, (some (.strs x13))⟩, ⟨false, (some (.tab [.int .i8, .int .i16, .fl .f32] x14))⟩], 2, []⟩)]
noncomputable def w9 (x0 x1 x2 x3 x4 x5 x6 x7 : Nat) (x8 : Int) (x9 : ByteArray) (x10 x11 : Nat) (x12 : Int) (x13 : List ByteArray) (x14 : List (List Int)) : Res :=
 let c2252 := (r38 ((r37 x0 x1 x2 x3 x4 x5 x6 x7 x8 x9 x10 x11 x12 ((r12 x13 x14).2.1) ((r12 x13 x14).2.2)).2.1) ((r37 x0 x1 x2 x3 x4 x5 x6 x7 x8 x9 x10 x11 x12 ((r12 x13 x14).2.1) ((r12 x13 x14).2.2)).2.2.1) ((r36 x0 x1 x2 x3 x4 x5 x6 x7 x8 x9 x10 x11 x12 ((r12 x13 x14).2.1) ((r12 x13 x14).2.2)).2.1) ((r36 x0 x1 x2 x3 x4 x5 x6 x7 x8 x9 x10 x11 x12 ((r12 x13 x14).2.1) ((r12 x13 x14).2.2)).2.2.1))
 (cond (decide (((((x9.size) : Nat) : Int) : Int) > 1048576))
 (a9 x0 x1 x2 x3 x4 x5 x6 x7 x8 x9 x10 x11 x12 x13 x14 (0, true))
 (cond (Nat.beq ((r10 1048576 x13 x14).1) 0)
  (cond (decide ((((r10 1048576 x13 x14).2) : Int) < 0))
  (a9 x0 x1 x2 x3 x4 x5 x6 x7 x8 x9 x10 x11 x12 x13 x14 (0, true))
  (cond (Nat.beq ((r12 x13 x14).1) 0)
  (cond (Nat.beq ((r36 x0 x1 x2 x3 x4 x5 x6 x7 x8 x9 x10 x11 x12 ((r12 x13 x14).2.1) ((r12 x13 x14).2.2)).1) 0)
  (cond (Nat.beq ((r12 x13 x14).1) 0)
  (cond (Nat.beq ((r37 x0 x1 x2 x3 x4 x5 x6 x7 x8 x9 x10 x11 x12 ((r12 x13 x14).2.1) ((r12 x13 x14).2.2)).1) 0)
  (cond (!c2252)
  (a9 x0 x1 x2 x3 x4 x5 x6 x7 x8 x9 x10 x11 x12 x13 x14 (0, false))
  (cond ((((r37 x0 x1 x2 x3 x4 x5 x6 x7 x8 x9 x10 x11 x12 ((r12 x13 x14).2.1) ((r12 x13 x14).2.2)).2.2.2) : Int) != ((r36 x0 x1 x2 x3 x4 x5 x6 x7 x8 x9 x10 x11 x12 ((r12 x13 x14).2.1) ((r12 x13 x14).2.2)).2.2.2))
  (a9 x0 x1 x2 x3 x4 x5 x6 x7 x8 x9 x10 x11 x12 x13 x14 (0, false))
  (cond (Nat.beq ((r12 x13 x14).1) 0)
  (cond (Nat.beq ((r14 ((r12 x13 x14).2.1) ((r12 x13 x14).2.2) ((r12 x13 x14).2.1) ((r12 x13 x14).2.2)).1) 0)
  (cond (!((r14 ((r12 x13 x14).2.1) ((r12 x13 x14).2.2) ((r12 x13 x14).2.1) ((r12 x13 x14).2.2)).2))
  (a9 x0 x1 x2 x3 x4 x5 x6 x7 x8 x9 x10 x11 x12 x13 x14 (0, false))
  (a9 x0 x1 x2 x3 x4 x5 x6 x7 x8 x9 x10 x11 x12 x13 x14 (0, true)))
  none)
  none)))
  none)
  none)
  none)
  none))
  none))
set_option maxRecDepth 100000 in
set_option maxHeartbeats 4000000 in
theorem e9 (x0 x1 x2 x3 x4 x5 x6 x7 : Nat) (x8 : Int) (x9 : ByteArray) (x10 x11 : Nat) (x12 : Int) (x13 : List ByteArray) (x14 : List (List Int)) : evFn Try.prog ext T78 noL 200 Try.f9 [.agg #[wsl 0, wsl 1], .agg #[.float .f32 x0, .float .f32 x1, .float .f32 x2, .float .f32 x3, .float .f32 x4, .float .f32 x5, .float .f32 x6, .float .f32 x7], .int .i64 x8, .string x9, .agg #[.float .f32 x10, .float .f32 x11], .int .i64 x12] ⟨[⟨false, (some (.strs x13))⟩, ⟨false, (some (.tab [.int .i8, .int .i16, .fl .f32] x14))⟩], 2, []⟩ = firstT [((Nat.beq ((r9 x0 x1 x2 x3 x4 x5 x6 x7 x8 x9 x10 x11 x12 x13 x14).1) 0), .bool ((r9 x0 x1 x2 x3 x4 x5 x6 x7 x8 x9 x10 x11 x12 x13 x14).2), ⟨[⟨false, (some (.strs x13))⟩, ⟨false, (some (.tab [.int .i8, .int .i16, .fl .f32] x14))⟩], 2, []⟩)] :=
 (show evFn Try.prog ext T78 noL 200 Try.f9 [.agg #[wsl 0, wsl 1], .agg #[.float .f32 x0, .float .f32 x1, .float .f32 x2, .float .f32 x3, .float .f32 x4, .float .f32 x5, .float .f32 x6, .float .f32 x7], .int .i64 x8, .string x9, .agg #[.float .f32 x10, .float .f32 x11], .int .i64 x12] ⟨[⟨false, (some (.strs x13))⟩, ⟨false, (some (.tab [.int .i8, .int .i16, .fl .f32] x14))⟩], 2, []⟩ = w9 x0 x1 x2 x3 x4 x5 x6 x7 x8 x9 x10 x11 x12 x13 x14 from by kernel_rfl).trans
 (show w9 x0 x1 x2 x3 x4 x5 x6 x7 x8 x9 x10 x11 x12 x13 x14 = a9 x0 x1 x2 x3 x4 x5 x6 x7 x8 x9 x10 x11 x12 x13 x14 (r9 x0 x1 x2 x3 x4 x5 x6 x7 x8 x9 x10 x11 x12 x13 x14) from by unfold w9 r9; exact (cond_both (a9 x0 x1 x2 x3 x4 x5 x6 x7 x8 x9 x10 x11 x12 x13 x14) _ (fun h0 => rfl) (fun h0 => (cond_both (a9 x0 x1 x2 x3 x4 x5 x6 x7 x8 x9 x10 x11 x12 x13 x14) _ (fun h1 => (cond_both (a9 x0 x1 x2 x3 x4 x5 x6 x7 x8 x9 x10 x11 x12 x13 x14) _ (fun h2 => rfl) (fun h2 => (cond_both (a9 x0 x1 x2 x3 x4 x5 x6 x7 x8 x9 x10 x11 x12 x13 x14) _ (fun h3 => (cond_both (a9 x0 x1 x2 x3 x4 x5 x6 x7 x8 x9 x10 x11 x12 x13 x14) _ (fun h4 => (cond_t h3 (cond_both (a9 x0 x1 x2 x3 x4 x5 x6 x7 x8 x9 x10 x11 x12 x13 x14) _ (fun h5 => (cond_both (a9 x0 x1 x2 x3 x4 x5 x6 x7 x8 x9 x10 x11 x12 x13 x14) _ (fun h6 => rfl) (fun h6 => (cond_both (a9 x0 x1 x2 x3 x4 x5 x6 x7 x8 x9 x10 x11 x12 x13 x14) _ (fun h7 => rfl) (fun h7 => (cond_t h3 (cond_app (a9 x0 x1 x2 x3 x4 x5 x6 x7 x8 x9 x10 x11 x12 x13 x14) _ (cond_app (a9 x0 x1 x2 x3 x4 x5 x6 x7 x8 x9 x10 x11 x12 x13 x14) _ rfl rfl) rfl))))))) (fun h5 => rfl)))) (fun h4 => rfl))) (fun h3 => rfl))))) (fun h1 => rfl)))))
noncomputable def s9 (args : List Value) (s : St) : List (Bool × Value × St) :=
 match args, s.h with
 | [.agg ⟨[.iface f0 .nilIface, .iface f1 .nilIface]⟩, .agg ⟨[.float .f32 x0, .float .f32 x1, .float .f32 x2, .float .f32 x3, .float .f32 x4, .float .f32 x5, .float .f32 x6, .float .f32 x7]⟩, .int .i64 x8, .string x9, .agg ⟨[.float .f32 x10, .float .f32 x11]⟩, .int .i64 x12], [⟨false, some (.strs x13)⟩, ⟨false, some (.tab [.int .i8, .int .i16, .fl .f32] x14)⟩] => if f0 = 0 ∧ f1 = 1 then [((Nat.beq ((r9 x0 x1 x2 x3 x4 x5 x6 x7 x8 x9 x10 x11 x12 x13 x14).1) 0), .bool ((r9 x0 x1 x2 x3 x4 x5 x6 x7 x8 x9 x10 x11 x12 x13 x14).2), ⟨[⟨false, (some (.strs x13))⟩, ⟨false, (some (.tab [.int .i8, .int .i16, .fl .f32] x14))⟩], 2, []⟩)] else T78 9 args s
 | _, _ => T78 9 args s
noncomputable def T79 : CallF := addF T78 9 s9
set_option maxRecDepth 100000 in
set_option maxHeartbeats 4000000 in
theorem ok79 : CfOk Try.prog T79 := by
  refine cfOk_add ok78 fun args s r s' h1 h2 h3 => ?_
  unfold s9 at h3; split at h3
  · rename_i h; split at h3
    · rename_i hc; obtain ⟨rfl, rfl⟩ := hc; exact callOk ok78 Try.func9 h1 h2 h (lfOkF_no _ _).body (e9 _ _ _ _ _ _ _ _ _ _ _ _ _ _ _) rfl h3
    · exact ok78 _ _ _ _ _ h1 h2 h3
  · exact ok78 _ _ _ _ _ h1 h2 h3
end Go.Proofs.Ytfclciebpnnieaa
