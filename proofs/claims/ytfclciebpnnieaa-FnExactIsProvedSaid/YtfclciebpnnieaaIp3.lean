/- What the functions that the statements reach answer, part 3. -/
import Derived.Test.YtfclciebpnnieaaIp2
namespace Go.Proofs.Ytfclciebpnnieaa
open Go.Ab
set_option maxHeartbeats 4000000
set_option maxRecDepth 100000

/-- spec.l05Prove, loop 0: one round -/
noncomputable def b62l0 (ih : Int → Nat → Nat → Nat → Nat → Nat → Nat → Nat → Nat → List (List Int) → List (List Int) → List ByteArray → List (List Int) → (Nat × List (List Int) × List (List Int))) (x0 : Int) (x1 x2 x3 x4 x5 x6 x7 x8 : Nat) (x9 x10 : List (List Int)) (x11 : List ByteArray) (x12 : List (List Int)) : Nat × List (List Int) × List (List Int) :=
 let c31 := (r86 (Int.toNat ((x10.getD (Int.toNat (IntKind.i64.wrap (((x10.length : Nat) : Int) - 3))) []).getD 0 0)) (Int.toNat ((x10.getD (Int.toNat (IntKind.i64.wrap (((x10.length : Nat) : Int) - 3))) []).getD 1 0)) (Int.toNat ((x10.getD (Int.toNat (IntKind.i64.wrap (((x10.length : Nat) : Int) - 2))) []).getD 0 0)) (Int.toNat ((x10.getD (Int.toNat (IntKind.i64.wrap (((x10.length : Nat) : Int) - 2))) []).getD 1 0)) (Int.toNat ((x10.getD (Int.toNat (IntKind.i64.wrap (((x10.length : Nat) : Int) - 1))) []).getD 0 0)) (Int.toNat ((x10.getD (Int.toNat (IntKind.i64.wrap (((x10.length : Nat) : Int) - 1))) []).getD 1 0)))
 let c32 := (r87 ((x12.getD (Int.toNat x0) []).getD 0 0) (Int.toNat ((x10.getD (Int.toNat (IntKind.i64.wrap (((x10.length : Nat) : Int) - 2))) []).getD 0 0)) (Int.toNat ((x10.getD (Int.toNat (IntKind.i64.wrap (((x10.length : Nat) : Int) - 2))) []).getD 1 0)) (Int.toNat ((x10.getD (Int.toNat (IntKind.i64.wrap (((x10.length : Nat) : Int) - 1))) []).getD 0 0)) (Int.toNat ((x10.getD (Int.toNat (IntKind.i64.wrap (((x10.length : Nat) : Int) - 1))) []).getD 1 0)))
 cond (decide ((x0 : Int) < ((x12.length : Nat) : Int)))
  (cond ((decide ((0 : Int) ≤ x0)) && (Nat.blt (Int.toNat x0) x12.length))
   (cond ((((x12.getD (Int.toNat x0) []).getD 0 0) : Int) == 1)
    (cond (Nat.ble ((x10.length + 1) * 9) 140737488355328)
     (cond (Nat.beq ((ih (IntKind.i64.wrap (x0 + 1)) x1 x2 x3 x4 x5 x6 x7 x8 x9 (((x10.drop 0).take x10.length) ++ ([[(((Int.toNat ((x12.getD (Int.toNat x0) []).getD 2 0)) : Nat) : Int), (((Int.toNat ((x12.getD (Int.toNat x0) []).getD 2 0)) : Nat) : Int)]] : List (List Int))) x11 x12).1) 0)
      (0, [], [])
      (cond (Nat.beq ((ih (IntKind.i64.wrap (x0 + 1)) x1 x2 x3 x4 x5 x6 x7 x8 x9 (((x10.drop 0).take x10.length) ++ ([[(((Int.toNat ((x12.getD (Int.toNat x0) []).getD 2 0)) : Nat) : Int), (((Int.toNat ((x12.getD (Int.toNat x0) []).getD 2 0)) : Nat) : Int)]] : List (List Int))) x11 x12).1) 1)
       (1, ((ih (IntKind.i64.wrap (x0 + 1)) x1 x2 x3 x4 x5 x6 x7 x8 x9 (((x10.drop 0).take x10.length) ++ ([[(((Int.toNat ((x12.getD (Int.toNat x0) []).getD 2 0)) : Nat) : Int), (((Int.toNat ((x12.getD (Int.toNat x0) []).getD 2 0)) : Nat) : Int)]] : List (List Int))) x11 x12).2.1), [])
       (cond (Nat.beq ((ih (IntKind.i64.wrap (x0 + 1)) x1 x2 x3 x4 x5 x6 x7 x8 x9 (((x10.drop 0).take x10.length) ++ ([[(((Int.toNat ((x12.getD (Int.toNat x0) []).getD 2 0)) : Nat) : Int), (((Int.toNat ((x12.getD (Int.toNat x0) []).getD 2 0)) : Nat) : Int)]] : List (List Int))) x11 x12).1) 2)
        (0, [], [])
        (3, [], []))))
     (3, [], []))
    (cond ((((x12.getD (Int.toNat x0) []).getD 0 0) : Int) == 2)
     (cond ((decide ((0 : Int) ≤ ((x12.getD (Int.toNat x0) []).getD 1 0))) && (Nat.blt (Int.toNat ((x12.getD (Int.toNat x0) []).getD 1 0)) 4))
      (cond (Nat.beq (0 + (Int.toNat ((x12.getD (Int.toNat x0) []).getD 1 0)) * 2) 0)
       (cond (Nat.ble ((x10.length + 1) * 9) 140737488355328)
        (cond (Nat.beq ((ih (IntKind.i64.wrap (x0 + 1)) x1 x2 x3 x4 x5 x6 x7 x8 x9 (((x10.drop 0).take x10.length) ++ ([[((x1 : Nat) : Int), ((x2 : Nat) : Int)]] : List (List Int))) x11 x12).1) 0)
         (0, [], [])
         (cond (Nat.beq ((ih (IntKind.i64.wrap (x0 + 1)) x1 x2 x3 x4 x5 x6 x7 x8 x9 (((x10.drop 0).take x10.length) ++ ([[((x1 : Nat) : Int), ((x2 : Nat) : Int)]] : List (List Int))) x11 x12).1) 1)
          (1, ((ih (IntKind.i64.wrap (x0 + 1)) x1 x2 x3 x4 x5 x6 x7 x8 x9 (((x10.drop 0).take x10.length) ++ ([[((x1 : Nat) : Int), ((x2 : Nat) : Int)]] : List (List Int))) x11 x12).2.1), [])
          (cond (Nat.beq ((ih (IntKind.i64.wrap (x0 + 1)) x1 x2 x3 x4 x5 x6 x7 x8 x9 (((x10.drop 0).take x10.length) ++ ([[((x1 : Nat) : Int), ((x2 : Nat) : Int)]] : List (List Int))) x11 x12).1) 2)
           (0, [], [])
           (3, [], []))))
        (3, [], []))
       (cond (Nat.beq (0 + (Int.toNat ((x12.getD (Int.toNat x0) []).getD 1 0)) * 2) 1)
        (cond (Nat.ble ((x10.length + 1) * 9) 140737488355328)
         (cond (Nat.beq ((ih (IntKind.i64.wrap (x0 + 1)) x1 x2 x3 x4 x5 x6 x7 x8 x9 (((x10.drop 0).take x10.length) ++ ([[((x2 : Nat) : Int), ((x3 : Nat) : Int)]] : List (List Int))) x11 x12).1) 0)
          (0, [], [])
          (cond (Nat.beq ((ih (IntKind.i64.wrap (x0 + 1)) x1 x2 x3 x4 x5 x6 x7 x8 x9 (((x10.drop 0).take x10.length) ++ ([[((x2 : Nat) : Int), ((x3 : Nat) : Int)]] : List (List Int))) x11 x12).1) 1)
           (1, ((ih (IntKind.i64.wrap (x0 + 1)) x1 x2 x3 x4 x5 x6 x7 x8 x9 (((x10.drop 0).take x10.length) ++ ([[((x2 : Nat) : Int), ((x3 : Nat) : Int)]] : List (List Int))) x11 x12).2.1), [])
           (cond (Nat.beq ((ih (IntKind.i64.wrap (x0 + 1)) x1 x2 x3 x4 x5 x6 x7 x8 x9 (((x10.drop 0).take x10.length) ++ ([[((x2 : Nat) : Int), ((x3 : Nat) : Int)]] : List (List Int))) x11 x12).1) 2)
            (0, [], [])
            (3, [], []))))
         (3, [], []))
        (cond (Nat.beq (0 + (Int.toNat ((x12.getD (Int.toNat x0) []).getD 1 0)) * 2) 2)
         (cond (Nat.ble ((x10.length + 1) * 9) 140737488355328)
          (cond (Nat.beq ((ih (IntKind.i64.wrap (x0 + 1)) x1 x2 x3 x4 x5 x6 x7 x8 x9 (((x10.drop 0).take x10.length) ++ ([[((x3 : Nat) : Int), ((x4 : Nat) : Int)]] : List (List Int))) x11 x12).1) 0)
           (0, [], [])
           (cond (Nat.beq ((ih (IntKind.i64.wrap (x0 + 1)) x1 x2 x3 x4 x5 x6 x7 x8 x9 (((x10.drop 0).take x10.length) ++ ([[((x3 : Nat) : Int), ((x4 : Nat) : Int)]] : List (List Int))) x11 x12).1) 1)
            (1, ((ih (IntKind.i64.wrap (x0 + 1)) x1 x2 x3 x4 x5 x6 x7 x8 x9 (((x10.drop 0).take x10.length) ++ ([[((x3 : Nat) : Int), ((x4 : Nat) : Int)]] : List (List Int))) x11 x12).2.1), [])
            (cond (Nat.beq ((ih (IntKind.i64.wrap (x0 + 1)) x1 x2 x3 x4 x5 x6 x7 x8 x9 (((x10.drop 0).take x10.length) ++ ([[((x3 : Nat) : Int), ((x4 : Nat) : Int)]] : List (List Int))) x11 x12).1) 2)
             (0, [], [])
             (3, [], []))))
          (3, [], []))
         (cond (Nat.beq (0 + (Int.toNat ((x12.getD (Int.toNat x0) []).getD 1 0)) * 2) 3)
          (cond (Nat.ble ((x10.length + 1) * 9) 140737488355328)
           (cond (Nat.beq ((ih (IntKind.i64.wrap (x0 + 1)) x1 x2 x3 x4 x5 x6 x7 x8 x9 (((x10.drop 0).take x10.length) ++ ([[((x4 : Nat) : Int), ((x5 : Nat) : Int)]] : List (List Int))) x11 x12).1) 0)
            (0, [], [])
            (cond (Nat.beq ((ih (IntKind.i64.wrap (x0 + 1)) x1 x2 x3 x4 x5 x6 x7 x8 x9 (((x10.drop 0).take x10.length) ++ ([[((x4 : Nat) : Int), ((x5 : Nat) : Int)]] : List (List Int))) x11 x12).1) 1)
             (1, ((ih (IntKind.i64.wrap (x0 + 1)) x1 x2 x3 x4 x5 x6 x7 x8 x9 (((x10.drop 0).take x10.length) ++ ([[((x4 : Nat) : Int), ((x5 : Nat) : Int)]] : List (List Int))) x11 x12).2.1), [])
             (cond (Nat.beq ((ih (IntKind.i64.wrap (x0 + 1)) x1 x2 x3 x4 x5 x6 x7 x8 x9 (((x10.drop 0).take x10.length) ++ ([[((x4 : Nat) : Int), ((x5 : Nat) : Int)]] : List (List Int))) x11 x12).1) 2)
              (0, [], [])
              (3, [], []))))
           (3, [], []))
          (cond (Nat.beq (0 + (Int.toNat ((x12.getD (Int.toNat x0) []).getD 1 0)) * 2) 4)
           (cond (Nat.ble ((x10.length + 1) * 9) 140737488355328)
            (cond (Nat.beq ((ih (IntKind.i64.wrap (x0 + 1)) x1 x2 x3 x4 x5 x6 x7 x8 x9 (((x10.drop 0).take x10.length) ++ ([[((x5 : Nat) : Int), ((x6 : Nat) : Int)]] : List (List Int))) x11 x12).1) 0)
             (0, [], [])
             (cond (Nat.beq ((ih (IntKind.i64.wrap (x0 + 1)) x1 x2 x3 x4 x5 x6 x7 x8 x9 (((x10.drop 0).take x10.length) ++ ([[((x5 : Nat) : Int), ((x6 : Nat) : Int)]] : List (List Int))) x11 x12).1) 1)
              (1, ((ih (IntKind.i64.wrap (x0 + 1)) x1 x2 x3 x4 x5 x6 x7 x8 x9 (((x10.drop 0).take x10.length) ++ ([[((x5 : Nat) : Int), ((x6 : Nat) : Int)]] : List (List Int))) x11 x12).2.1), [])
              (cond (Nat.beq ((ih (IntKind.i64.wrap (x0 + 1)) x1 x2 x3 x4 x5 x6 x7 x8 x9 (((x10.drop 0).take x10.length) ++ ([[((x5 : Nat) : Int), ((x6 : Nat) : Int)]] : List (List Int))) x11 x12).1) 2)
               (0, [], [])
               (3, [], []))))
            (3, [], []))
           (cond (Nat.beq (0 + (Int.toNat ((x12.getD (Int.toNat x0) []).getD 1 0)) * 2) 5)
            (cond (Nat.ble ((x10.length + 1) * 9) 140737488355328)
             (cond (Nat.beq ((ih (IntKind.i64.wrap (x0 + 1)) x1 x2 x3 x4 x5 x6 x7 x8 x9 (((x10.drop 0).take x10.length) ++ ([[((x6 : Nat) : Int), ((x7 : Nat) : Int)]] : List (List Int))) x11 x12).1) 0)
              (0, [], [])
              (cond (Nat.beq ((ih (IntKind.i64.wrap (x0 + 1)) x1 x2 x3 x4 x5 x6 x7 x8 x9 (((x10.drop 0).take x10.length) ++ ([[((x6 : Nat) : Int), ((x7 : Nat) : Int)]] : List (List Int))) x11 x12).1) 1)
               (1, ((ih (IntKind.i64.wrap (x0 + 1)) x1 x2 x3 x4 x5 x6 x7 x8 x9 (((x10.drop 0).take x10.length) ++ ([[((x6 : Nat) : Int), ((x7 : Nat) : Int)]] : List (List Int))) x11 x12).2.1), [])
               (cond (Nat.beq ((ih (IntKind.i64.wrap (x0 + 1)) x1 x2 x3 x4 x5 x6 x7 x8 x9 (((x10.drop 0).take x10.length) ++ ([[((x6 : Nat) : Int), ((x7 : Nat) : Int)]] : List (List Int))) x11 x12).1) 2)
                (0, [], [])
                (3, [], []))))
             (3, [], []))
            (cond (Nat.beq (0 + (Int.toNat ((x12.getD (Int.toNat x0) []).getD 1 0)) * 2) 6)
             (cond (Nat.ble ((x10.length + 1) * 9) 140737488355328)
              (cond (Nat.beq ((ih (IntKind.i64.wrap (x0 + 1)) x1 x2 x3 x4 x5 x6 x7 x8 x9 (((x10.drop 0).take x10.length) ++ ([[((x7 : Nat) : Int), ((x8 : Nat) : Int)]] : List (List Int))) x11 x12).1) 0)
               (0, [], [])
               (cond (Nat.beq ((ih (IntKind.i64.wrap (x0 + 1)) x1 x2 x3 x4 x5 x6 x7 x8 x9 (((x10.drop 0).take x10.length) ++ ([[((x7 : Nat) : Int), ((x8 : Nat) : Int)]] : List (List Int))) x11 x12).1) 1)
                (1, ((ih (IntKind.i64.wrap (x0 + 1)) x1 x2 x3 x4 x5 x6 x7 x8 x9 (((x10.drop 0).take x10.length) ++ ([[((x7 : Nat) : Int), ((x8 : Nat) : Int)]] : List (List Int))) x11 x12).2.1), [])
                (cond (Nat.beq ((ih (IntKind.i64.wrap (x0 + 1)) x1 x2 x3 x4 x5 x6 x7 x8 x9 (((x10.drop 0).take x10.length) ++ ([[((x7 : Nat) : Int), ((x8 : Nat) : Int)]] : List (List Int))) x11 x12).1) 2)
                 (0, [], [])
                 (3, [], []))))
              (3, [], []))
             (3, [], []))))))))
      (3, [], []))
     (cond ((((x12.getD (Int.toNat x0) []).getD 0 0) : Int) == 3)
      (cond ((decide ((0 : Int) ≤ ((x12.getD (Int.toNat x0) []).getD 1 0))) && (Nat.blt (Int.toNat ((x12.getD (Int.toNat x0) []).getD 1 0)) x9.length))
       (cond (Nat.ble ((x10.length + 1) * 9) 140737488355328)
        (cond (Nat.beq ((ih (IntKind.i64.wrap (x0 + 1)) x1 x2 x3 x4 x5 x6 x7 x8 x9 (((x10.drop 0).take x10.length) ++ ([[(((Int.toNat ((x9.getD (Int.toNat ((x12.getD (Int.toNat x0) []).getD 1 0)) []).getD 0 0)) : Nat) : Int), (((Int.toNat ((x9.getD (Int.toNat ((x12.getD (Int.toNat x0) []).getD 1 0)) []).getD 1 0)) : Nat) : Int)]] : List (List Int))) x11 x12).1) 0)
         (0, [], [])
         (cond (Nat.beq ((ih (IntKind.i64.wrap (x0 + 1)) x1 x2 x3 x4 x5 x6 x7 x8 x9 (((x10.drop 0).take x10.length) ++ ([[(((Int.toNat ((x9.getD (Int.toNat ((x12.getD (Int.toNat x0) []).getD 1 0)) []).getD 0 0)) : Nat) : Int), (((Int.toNat ((x9.getD (Int.toNat ((x12.getD (Int.toNat x0) []).getD 1 0)) []).getD 1 0)) : Nat) : Int)]] : List (List Int))) x11 x12).1) 1)
          (1, ((ih (IntKind.i64.wrap (x0 + 1)) x1 x2 x3 x4 x5 x6 x7 x8 x9 (((x10.drop 0).take x10.length) ++ ([[(((Int.toNat ((x9.getD (Int.toNat ((x12.getD (Int.toNat x0) []).getD 1 0)) []).getD 0 0)) : Nat) : Int), (((Int.toNat ((x9.getD (Int.toNat ((x12.getD (Int.toNat x0) []).getD 1 0)) []).getD 1 0)) : Nat) : Int)]] : List (List Int))) x11 x12).2.1), [])
          (cond (Nat.beq ((ih (IntKind.i64.wrap (x0 + 1)) x1 x2 x3 x4 x5 x6 x7 x8 x9 (((x10.drop 0).take x10.length) ++ ([[(((Int.toNat ((x9.getD (Int.toNat ((x12.getD (Int.toNat x0) []).getD 1 0)) []).getD 0 0)) : Nat) : Int), (((Int.toNat ((x9.getD (Int.toNat ((x12.getD (Int.toNat x0) []).getD 1 0)) []).getD 1 0)) : Nat) : Int)]] : List (List Int))) x11 x12).1) 2)
           (0, [], [])
           (3, [], []))))
        (3, [], []))
       (3, [], []))
      (cond ((((x12.getD (Int.toNat x0) []).getD 0 0) : Int) == 4)
       (cond ((decide ((0 : Int) ≤ (IntKind.i64.wrap (((x10.length : Nat) : Int) - 1)))) && (Nat.blt (Int.toNat (IntKind.i64.wrap (((x10.length : Nat) : Int) - 1))) x10.length))
        (cond (Nat.ble ((x9.length + 1) * 9) 140737488355328)
         (cond ((Nat.blt 0 x10.length) && (((decide ((0 : Int) ≤ (IntKind.i64.wrap (((x10.length : Nat) : Int) - 1)))) && (Nat.ble 0 (Int.toNat (IntKind.i64.wrap (((x10.length : Nat) : Int) - 1))))) && (Nat.ble (Int.toNat (IntKind.i64.wrap (((x10.length : Nat) : Int) - 1))) x10.length)))
          (cond (Nat.beq ((ih (IntKind.i64.wrap (x0 + 1)) x1 x2 x3 x4 x5 x6 x7 x8 (((x9.drop 0).take x9.length) ++ ([[(((Int.toNat ((x10.getD (Int.toNat (IntKind.i64.wrap (((x10.length : Nat) : Int) - 1))) []).getD 0 0)) : Nat) : Int), (((Int.toNat ((x10.getD (Int.toNat (IntKind.i64.wrap (((x10.length : Nat) : Int) - 1))) []).getD 1 0)) : Nat) : Int)]] : List (List Int))) ((x10.drop 0).take (Int.toNat (IntKind.i64.wrap (((x10.length : Nat) : Int) - 1)))) x11 x12).1) 0)
           (1, (((x9.drop 0).take x9.length) ++ ([[(((Int.toNat ((x10.getD (Int.toNat (IntKind.i64.wrap (((x10.length : Nat) : Int) - 1))) []).getD 0 0)) : Nat) : Int), (((Int.toNat ((x10.getD (Int.toNat (IntKind.i64.wrap (((x10.length : Nat) : Int) - 1))) []).getD 1 0)) : Nat) : Int)]] : List (List Int))), [])
           (cond (Nat.beq ((ih (IntKind.i64.wrap (x0 + 1)) x1 x2 x3 x4 x5 x6 x7 x8 (((x9.drop 0).take x9.length) ++ ([[(((Int.toNat ((x10.getD (Int.toNat (IntKind.i64.wrap (((x10.length : Nat) : Int) - 1))) []).getD 0 0)) : Nat) : Int), (((Int.toNat ((x10.getD (Int.toNat (IntKind.i64.wrap (((x10.length : Nat) : Int) - 1))) []).getD 1 0)) : Nat) : Int)]] : List (List Int))) ((x10.drop 0).take (Int.toNat (IntKind.i64.wrap (((x10.length : Nat) : Int) - 1)))) x11 x12).1) 1)
            (1, ((ih (IntKind.i64.wrap (x0 + 1)) x1 x2 x3 x4 x5 x6 x7 x8 (((x9.drop 0).take x9.length) ++ ([[(((Int.toNat ((x10.getD (Int.toNat (IntKind.i64.wrap (((x10.length : Nat) : Int) - 1))) []).getD 0 0)) : Nat) : Int), (((Int.toNat ((x10.getD (Int.toNat (IntKind.i64.wrap (((x10.length : Nat) : Int) - 1))) []).getD 1 0)) : Nat) : Int)]] : List (List Int))) ((x10.drop 0).take (Int.toNat (IntKind.i64.wrap (((x10.length : Nat) : Int) - 1)))) x11 x12).2.1), [])
            (cond (Nat.beq ((ih (IntKind.i64.wrap (x0 + 1)) x1 x2 x3 x4 x5 x6 x7 x8 (((x9.drop 0).take x9.length) ++ ([[(((Int.toNat ((x10.getD (Int.toNat (IntKind.i64.wrap (((x10.length : Nat) : Int) - 1))) []).getD 0 0)) : Nat) : Int), (((Int.toNat ((x10.getD (Int.toNat (IntKind.i64.wrap (((x10.length : Nat) : Int) - 1))) []).getD 1 0)) : Nat) : Int)]] : List (List Int))) ((x10.drop 0).take (Int.toNat (IntKind.i64.wrap (((x10.length : Nat) : Int) - 1)))) x11 x12).1) 2)
             (1, (((x9.drop 0).take x9.length) ++ ([[(((Int.toNat ((x10.getD (Int.toNat (IntKind.i64.wrap (((x10.length : Nat) : Int) - 1))) []).getD 0 0)) : Nat) : Int), (((Int.toNat ((x10.getD (Int.toNat (IntKind.i64.wrap (((x10.length : Nat) : Int) - 1))) []).getD 1 0)) : Nat) : Int)]] : List (List Int))), [])
             (3, [], []))))
          (3, [], []))
         (3, [], []))
        (3, [], []))
       (cond ((((x12.getD (Int.toNat x0) []).getD 0 0) : Int) == 12)
        (cond ((decide ((0 : Int) ≤ (IntKind.i64.wrap (((x10.length : Nat) : Int) - 1)))) && (Nat.blt (Int.toNat (IntKind.i64.wrap (((x10.length : Nat) : Int) - 1))) x10.length))
         (ih (IntKind.i64.wrap (x0 + 1)) x1 x2 x3 x4 x5 x6 x7 x8 x9 (x10.set (Int.toNat (IntKind.i64.wrap (((x10.length : Nat) : Int) - 1))) [(((fneg .f32 (Int.toNat ((x10.getD (Int.toNat (IntKind.i64.wrap (((x10.length : Nat) : Int) - 1))) []).getD 1 0))) : Nat) : Int), (((fneg .f32 (Int.toNat ((x10.getD (Int.toNat (IntKind.i64.wrap (((x10.length : Nat) : Int) - 1))) []).getD 0 0))) : Nat) : Int)]) x11 x12)
         (3, [], []))
        (cond ((((x12.getD (Int.toNat x0) []).getD 0 0) : Int) == 11)
         (cond ((decide ((0 : Int) ≤ (IntKind.i64.wrap (((x10.length : Nat) : Int) - 3)))) && (Nat.blt (Int.toNat (IntKind.i64.wrap (((x10.length : Nat) : Int) - 3))) x10.length))
          (cond ((decide ((0 : Int) ≤ (IntKind.i64.wrap (((x10.length : Nat) : Int) - 2)))) && (Nat.blt (Int.toNat (IntKind.i64.wrap (((x10.length : Nat) : Int) - 2))) x10.length))
           (cond ((decide ((0 : Int) ≤ (IntKind.i64.wrap (((x10.length : Nat) : Int) - 1)))) && (Nat.blt (Int.toNat (IntKind.i64.wrap (((x10.length : Nat) : Int) - 1))) x10.length))
            (cond ((Nat.blt 0 ((x10.set (Int.toNat (IntKind.i64.wrap (((x10.length : Nat) : Int) - 3))) [(((c31.1) : Nat) : Int), (((c31.2) : Nat) : Int)]).length)) && (((decide ((0 : Int) ≤ (IntKind.i64.wrap (((x10.length : Nat) : Int) - 2)))) && (Nat.ble 0 (Int.toNat (IntKind.i64.wrap (((x10.length : Nat) : Int) - 2))))) && (Nat.ble (Int.toNat (IntKind.i64.wrap (((x10.length : Nat) : Int) - 2))) ((x10.set (Int.toNat (IntKind.i64.wrap (((x10.length : Nat) : Int) - 3))) [(((c31.1) : Nat) : Int), (((c31.2) : Nat) : Int)]).length))))
             (cond (Nat.beq ((ih (IntKind.i64.wrap (x0 + 1)) x1 x2 x3 x4 x5 x6 x7 x8 x9 (((x10.set (Int.toNat (IntKind.i64.wrap (((x10.length : Nat) : Int) - 3))) [(((c31.1) : Nat) : Int), (((c31.2) : Nat) : Int)]).drop 0).take (Int.toNat (IntKind.i64.wrap (((x10.length : Nat) : Int) - 2)))) x11 x12).1) 0)
              (0, [], [])
              (cond (Nat.beq ((ih (IntKind.i64.wrap (x0 + 1)) x1 x2 x3 x4 x5 x6 x7 x8 x9 (((x10.set (Int.toNat (IntKind.i64.wrap (((x10.length : Nat) : Int) - 3))) [(((c31.1) : Nat) : Int), (((c31.2) : Nat) : Int)]).drop 0).take (Int.toNat (IntKind.i64.wrap (((x10.length : Nat) : Int) - 2)))) x11 x12).1) 1)
               (1, ((ih (IntKind.i64.wrap (x0 + 1)) x1 x2 x3 x4 x5 x6 x7 x8 x9 (((x10.set (Int.toNat (IntKind.i64.wrap (((x10.length : Nat) : Int) - 3))) [(((c31.1) : Nat) : Int), (((c31.2) : Nat) : Int)]).drop 0).take (Int.toNat (IntKind.i64.wrap (((x10.length : Nat) : Int) - 2)))) x11 x12).2.1), [])
               (cond (Nat.beq ((ih (IntKind.i64.wrap (x0 + 1)) x1 x2 x3 x4 x5 x6 x7 x8 x9 (((x10.set (Int.toNat (IntKind.i64.wrap (((x10.length : Nat) : Int) - 3))) [(((c31.1) : Nat) : Int), (((c31.2) : Nat) : Int)]).drop 0).take (Int.toNat (IntKind.i64.wrap (((x10.length : Nat) : Int) - 2)))) x11 x12).1) 2)
                (0, [], [])
                (3, [], []))))
             (3, [], []))
            (3, [], []))
           (3, [], []))
          (3, [], []))
         (cond ((decide ((0 : Int) ≤ (IntKind.i64.wrap (((x10.length : Nat) : Int) - 2)))) && (Nat.blt (Int.toNat (IntKind.i64.wrap (((x10.length : Nat) : Int) - 2))) x10.length))
          (cond ((decide ((0 : Int) ≤ (IntKind.i64.wrap (((x10.length : Nat) : Int) - 1)))) && (Nat.blt (Int.toNat (IntKind.i64.wrap (((x10.length : Nat) : Int) - 1))) x10.length))
           (cond (Nat.beq (c32.1) 0)
            (cond ((Nat.blt 0 ((x10.set (Int.toNat (IntKind.i64.wrap (((x10.length : Nat) : Int) - 2))) [(((c32.2.1) : Nat) : Int), (((c32.2.2) : Nat) : Int)]).length)) && (((decide ((0 : Int) ≤ (IntKind.i64.wrap (((x10.length : Nat) : Int) - 1)))) && (Nat.ble 0 (Int.toNat (IntKind.i64.wrap (((x10.length : Nat) : Int) - 1))))) && (Nat.ble (Int.toNat (IntKind.i64.wrap (((x10.length : Nat) : Int) - 1))) ((x10.set (Int.toNat (IntKind.i64.wrap (((x10.length : Nat) : Int) - 2))) [(((c32.2.1) : Nat) : Int), (((c32.2.2) : Nat) : Int)]).length))))
             (cond (Nat.beq ((ih (IntKind.i64.wrap (x0 + 1)) x1 x2 x3 x4 x5 x6 x7 x8 x9 (((x10.set (Int.toNat (IntKind.i64.wrap (((x10.length : Nat) : Int) - 2))) [(((c32.2.1) : Nat) : Int), (((c32.2.2) : Nat) : Int)]).drop 0).take (Int.toNat (IntKind.i64.wrap (((x10.length : Nat) : Int) - 1)))) x11 x12).1) 0)
              (0, [], [])
              (cond (Nat.beq ((ih (IntKind.i64.wrap (x0 + 1)) x1 x2 x3 x4 x5 x6 x7 x8 x9 (((x10.set (Int.toNat (IntKind.i64.wrap (((x10.length : Nat) : Int) - 2))) [(((c32.2.1) : Nat) : Int), (((c32.2.2) : Nat) : Int)]).drop 0).take (Int.toNat (IntKind.i64.wrap (((x10.length : Nat) : Int) - 1)))) x11 x12).1) 1)
               (1, ((ih (IntKind.i64.wrap (x0 + 1)) x1 x2 x3 x4 x5 x6 x7 x8 x9 (((x10.set (Int.toNat (IntKind.i64.wrap (((x10.length : Nat) : Int) - 2))) [(((c32.2.1) : Nat) : Int), (((c32.2.2) : Nat) : Int)]).drop 0).take (Int.toNat (IntKind.i64.wrap (((x10.length : Nat) : Int) - 1)))) x11 x12).2.1), [])
               (cond (Nat.beq ((ih (IntKind.i64.wrap (x0 + 1)) x1 x2 x3 x4 x5 x6 x7 x8 x9 (((x10.set (Int.toNat (IntKind.i64.wrap (((x10.length : Nat) : Int) - 2))) [(((c32.2.1) : Nat) : Int), (((c32.2.2) : Nat) : Int)]).drop 0).take (Int.toNat (IntKind.i64.wrap (((x10.length : Nat) : Int) - 1)))) x11 x12).1) 2)
                (0, [], [])
                (3, [], []))))
             (3, [], []))
            (3, [], []))
           (3, [], []))
          (3, [], []))))))))
   (3, [], []))
  (2, [], x10)
noncomputable def r62l0 : Nat → Int → Nat → Nat → Nat → Nat → Nat → Nat → Nat → Nat → List (List Int) → List (List Int) → List ByteArray → List (List Int) → (Nat × List (List Int) × List (List Int))
 | 0 => fun _ _ _ _ _ _ _ _ _ _ _ _ _ => (3, [], [])
 | m + 1 => b62l0 (r62l0 m)
noncomputable def a62l0 (x0 : Int) (x1 x2 x3 x4 x5 x6 x7 x8 : Nat) (x9 x10 : List (List Int)) (x11 : List ByteArray) (x12 : List (List Int)) (p : Nat × List (List Int) × List (List Int)) : Option (Fin' × List Value × St) := firstT ([((Nat.beq (p.1) 0), .exit 0, [wsl 2], ⟨[⟨true, (some (.cells [wsl 4, wsl 5]))⟩, ⟨true, (some (.cells [.float .f32 x1, .float .f32 x2, .float .f32 x3, .float .f32 x4, .float .f32 x5, .float .f32 x6, .float .f32 x7, .float .f32 x8]))⟩, ⟨true, (some (.tab [.fl .f32, .fl .f32] x9))⟩, ⟨true, none⟩, ⟨true, (some (.strs x11))⟩, ⟨true, (some (.tab [.int .i8, .int .i16, .fl .f32] x12))⟩], 6, [2, 3]⟩), ((Nat.beq (p.1) 1), .exit 0, [wsl 6], ⟨[⟨true, (some (.cells [wsl 4, wsl 5]))⟩, ⟨true, (some (.cells [.float .f32 x1, .float .f32 x2, .float .f32 x3, .float .f32 x4, .float .f32 x5, .float .f32 x6, .float .f32 x7, .float .f32 x8]))⟩, ⟨true, none⟩, ⟨true, none⟩, ⟨true, (some (.strs x11))⟩, ⟨true, (some (.tab [.int .i8, .int .i16, .fl .f32] x12))⟩, ⟨true, (some (.tab [.fl .f32, .fl .f32] (p.2.1)))⟩], 6, [2, 3]⟩), ((Nat.beq (p.1) 2), .exit 0, [wsl 2], ⟨[⟨true, (some (.cells [wsl 4, wsl 5]))⟩, ⟨true, (some (.cells [.float .f32 x1, .float .f32 x2, .float .f32 x3, .float .f32 x4, .float .f32 x5, .float .f32 x6, .float .f32 x7, .float .f32 x8]))⟩, ⟨true, (some (.tab [.fl .f32, .fl .f32] x9))⟩, ⟨true, (some (.tab [.fl .f32, .fl .f32] (p.2.2)))⟩, ⟨true, (some (.strs x11))⟩, ⟨true, (some (.tab [.int .i8, .int .i16, .fl .f32] x12))⟩], 6, [2, 3]⟩)].map fun (b, x) => (b, (x.1, frameOf 155 [5] x.2.1, x.2.2)))
noncomputable def u62l0 (x0 : Int) (x1 x2 x3 x4 x5 x6 x7 x8 : Nat) (x9 x10 : List (List Int)) (x11 : List ByteArray) (x12 : List (List Int)) (p : Nat × List (List Int) × List (List Int)) : Option (Fin' × List Value × St) := alts ([((Nat.beq (p.1) 0), .exit 0, [wsl 2], ⟨[⟨true, (some (.cells [wsl 4, wsl 5]))⟩, ⟨true, (some (.cells [.float .f32 x1, .float .f32 x2, .float .f32 x3, .float .f32 x4, .float .f32 x5, .float .f32 x6, .float .f32 x7, .float .f32 x8]))⟩, ⟨true, (some (.tab [.fl .f32, .fl .f32] x9))⟩, ⟨true, none⟩, ⟨true, (some (.strs x11))⟩, ⟨true, (some (.tab [.int .i8, .int .i16, .fl .f32] x12))⟩], 6, [2, 3]⟩), ((Nat.beq (p.1) 1), .exit 0, [wsl 6], ⟨[⟨true, (some (.cells [wsl 4, wsl 5]))⟩, ⟨true, (some (.cells [.float .f32 x1, .float .f32 x2, .float .f32 x3, .float .f32 x4, .float .f32 x5, .float .f32 x6, .float .f32 x7, .float .f32 x8]))⟩, ⟨true, none⟩, ⟨true, none⟩, ⟨true, (some (.strs x11))⟩, ⟨true, (some (.tab [.int .i8, .int .i16, .fl .f32] x12))⟩, ⟨true, (some (.tab [.fl .f32, .fl .f32] (p.2.1)))⟩], 6, [2, 3]⟩), ((Nat.beq (p.1) 2), .exit 0, [wsl 2], ⟨[⟨true, (some (.cells [wsl 4, wsl 5]))⟩, ⟨true, (some (.cells [.float .f32 x1, .float .f32 x2, .float .f32 x3, .float .f32 x4, .float .f32 x5, .float .f32 x6, .float .f32 x7, .float .f32 x8]))⟩, ⟨true, (some (.tab [.fl .f32, .fl .f32] x9))⟩, ⟨true, (some (.tab [.fl .f32, .fl .f32] (p.2.2)))⟩, ⟨true, (some (.strs x11))⟩, ⟨true, (some (.tab [.int .i8, .int .i16, .fl .f32] x12))⟩], 6, [2, 3]⟩)].map fun (b, x) => (b, (x.1, frameOf 155 [5] x.2.1, x.2.2))) some
theorem v62l0 (x0 : Int) (x1 x2 x3 x4 x5 x6 x7 x8 : Nat) (x9 x10 : List (List Int)) (x11 : List ByteArray) (x12 : List (List Int)) (p : Nat × List (List Int) × List (List Int)) : u62l0 x0 x1 x2 x3 x4 x5 x6 x7 x8 x9 x10 x11 x12 p = a62l0 x0 x1 x2 x3 x4 x5 x6 x7 x8 x9 x10 x11 x12 p := alts_first _
noncomputable def q62l0 (m : Nat) : SumK := fun vals s =>
 match vals, s.h with
 | [.pointer (some ⟨f0, f1, some f2⟩), .pointer (some ⟨f3, f4, some f5⟩), .iface f6 .nilIface, .iface f7 .nilIface, .int .i64 x0], [⟨true, some (.cells [.iface f8 .nilIface, .iface f9 .nilIface])⟩, ⟨true, some (.cells [.float .f32 x1, .float .f32 x2, .float .f32 x3, .float .f32 x4, .float .f32 x5, .float .f32 x6, .float .f32 x7, .float .f32 x8])⟩, ⟨true, some (.tab [.fl .f32, .fl .f32] x9)⟩, ⟨true, some (.tab [.fl .f32, .fl .f32] x10)⟩, ⟨true, some (.strs x11)⟩, ⟨true, some (.tab [.int .i8, .int .i16, .fl .f32] x12)⟩] => if f0 = 0 ∧ f1 = 0 ∧ f2 = 0 ∧ f3 = 1 ∧ f4 = 0 ∧ f5 = 0 ∧ f6 = 2 ∧ f7 = 3 ∧ f8 = 4 ∧ f9 = 5 then [((Nat.beq ((r62l0 m x0 x1 x2 x3 x4 x5 x6 x7 x8 x9 x10 x11 x12).1) 0), .exit 0, [wsl 2], ⟨[⟨true, (some (.cells [wsl 4, wsl 5]))⟩, ⟨true, (some (.cells [.float .f32 x1, .float .f32 x2, .float .f32 x3, .float .f32 x4, .float .f32 x5, .float .f32 x6, .float .f32 x7, .float .f32 x8]))⟩, ⟨true, (some (.tab [.fl .f32, .fl .f32] x9))⟩, ⟨true, none⟩, ⟨true, (some (.strs x11))⟩, ⟨true, (some (.tab [.int .i8, .int .i16, .fl .f32] x12))⟩], 6, [2, 3]⟩), ((Nat.beq ((r62l0 m x0 x1 x2 x3 x4 x5 x6 x7 x8 x9 x10 x11 x12).1) 1), .exit 0, [wsl 6], ⟨[⟨true, (some (.cells [wsl 4, wsl 5]))⟩, ⟨true, (some (.cells [.float .f32 x1, .float .f32 x2, .float .f32 x3, .float .f32 x4, .float .f32 x5, .float .f32 x6, .float .f32 x7, .float .f32 x8]))⟩, ⟨true, none⟩, ⟨true, none⟩, ⟨true, (some (.strs x11))⟩, ⟨true, (some (.tab [.int .i8, .int .i16, .fl .f32] x12))⟩, ⟨true, (some (.tab [.fl .f32, .fl .f32] ((r62l0 m x0 x1 x2 x3 x4 x5 x6 x7 x8 x9 x10 x11 x12).2.1)))⟩], 6, [2, 3]⟩), ((Nat.beq ((r62l0 m x0 x1 x2 x3 x4 x5 x6 x7 x8 x9 x10 x11 x12).1) 2), .exit 0, [wsl 2], ⟨[⟨true, (some (.cells [wsl 4, wsl 5]))⟩, ⟨true, (some (.cells [.float .f32 x1, .float .f32 x2, .float .f32 x3, .float .f32 x4, .float .f32 x5, .float .f32 x6, .float .f32 x7, .float .f32 x8]))⟩, ⟨true, (some (.tab [.fl .f32, .fl .f32] x9))⟩, ⟨true, (some (.tab [.fl .f32, .fl .f32] ((r62l0 m x0 x1 x2 x3 x4 x5 x6 x7 x8 x9 x10 x11 x12).2.2)))⟩, ⟨true, (some (.strs x11))⟩, ⟨true, (some (.tab [.int .i8, .int .i16, .fl .f32] x12))⟩], 6, [2, 3]⟩)] else noQ vals s
 | _, _ => noQ vals s
noncomputable def w62l0 (ih : Int → Nat → Nat → Nat → Nat → Nat → Nat → Nat → Nat → List (List Int) → List (List Int) → List ByteArray → List (List Int) → (Nat × List (List Int) × List (List Int))) (x0 : Int) (x1 x2 x3 x4 x5 x6 x7 x8 : Nat) (x9 x10 : List (List Int)) (x11 : List ByteArray) (x12 : List (List Int)) : Option (Fin' × List Value × St) :=
 let c31 := (r86 (Int.toNat ((x10.getD (Int.toNat (IntKind.i64.wrap (((x10.length : Nat) : Int) - 3))) []).getD 0 0)) (Int.toNat ((x10.getD (Int.toNat (IntKind.i64.wrap (((x10.length : Nat) : Int) - 3))) []).getD 1 0)) (Int.toNat ((x10.getD (Int.toNat (IntKind.i64.wrap (((x10.length : Nat) : Int) - 2))) []).getD 0 0)) (Int.toNat ((x10.getD (Int.toNat (IntKind.i64.wrap (((x10.length : Nat) : Int) - 2))) []).getD 1 0)) (Int.toNat ((x10.getD (Int.toNat (IntKind.i64.wrap (((x10.length : Nat) : Int) - 1))) []).getD 0 0)) (Int.toNat ((x10.getD (Int.toNat (IntKind.i64.wrap (((x10.length : Nat) : Int) - 1))) []).getD 1 0)))
 let c32 := (r87 ((x12.getD (Int.toNat x0) []).getD 0 0) (Int.toNat ((x10.getD (Int.toNat (IntKind.i64.wrap (((x10.length : Nat) : Int) - 2))) []).getD 0 0)) (Int.toNat ((x10.getD (Int.toNat (IntKind.i64.wrap (((x10.length : Nat) : Int) - 2))) []).getD 1 0)) (Int.toNat ((x10.getD (Int.toNat (IntKind.i64.wrap (((x10.length : Nat) : Int) - 1))) []).getD 0 0)) (Int.toNat ((x10.getD (Int.toNat (IntKind.i64.wrap (((x10.length : Nat) : Int) - 1))) []).getD 1 0)))
 (cond (decide ((x0 : Int) < ((x12.length : Nat) : Int)))
 (cond ((decide ((0 : Int) ≤ x0)) && (Nat.blt (Int.toNat x0) x12.length))
  (cond (Nat.blt (Int.toNat x0) x12.length)
   (cond ((((x12.getD (Int.toNat x0) []).getD 0 0) : Int) == 1)
    (cond (Nat.blt (Int.toNat x0) x12.length)
     (cond (Nat.blt (Int.toNat x0) x12.length)
      (cond (Nat.ble ((x10.length + 1) * 9) 140737488355328)
       (cond (Nat.beq ((ih (IntKind.i64.wrap (x0 + 1)) x1 x2 x3 x4 x5 x6 x7 x8 x9 (((x10.drop 0).take x10.length) ++ ([[(((Int.toNat ((x12.getD (Int.toNat x0) []).getD 2 0)) : Nat) : Int), (((Int.toNat ((x12.getD (Int.toNat x0) []).getD 2 0)) : Nat) : Int)]] : List (List Int))) x11 x12).1) 0)
        (a62l0 x0 x1 x2 x3 x4 x5 x6 x7 x8 x9 x10 x11 x12 (0, [], []))
        (cond (Nat.beq ((ih (IntKind.i64.wrap (x0 + 1)) x1 x2 x3 x4 x5 x6 x7 x8 x9 (((x10.drop 0).take x10.length) ++ ([[(((Int.toNat ((x12.getD (Int.toNat x0) []).getD 2 0)) : Nat) : Int), (((Int.toNat ((x12.getD (Int.toNat x0) []).getD 2 0)) : Nat) : Int)]] : List (List Int))) x11 x12).1) 1)
         (a62l0 x0 x1 x2 x3 x4 x5 x6 x7 x8 x9 x10 x11 x12 (1, ((ih (IntKind.i64.wrap (x0 + 1)) x1 x2 x3 x4 x5 x6 x7 x8 x9 (((x10.drop 0).take x10.length) ++ ([[(((Int.toNat ((x12.getD (Int.toNat x0) []).getD 2 0)) : Nat) : Int), (((Int.toNat ((x12.getD (Int.toNat x0) []).getD 2 0)) : Nat) : Int)]] : List (List Int))) x11 x12).2.1), []))
         (cond (Nat.beq ((ih (IntKind.i64.wrap (x0 + 1)) x1 x2 x3 x4 x5 x6 x7 x8 x9 (((x10.drop 0).take x10.length) ++ ([[(((Int.toNat ((x12.getD (Int.toNat x0) []).getD 2 0)) : Nat) : Int), (((Int.toNat ((x12.getD (Int.toNat x0) []).getD 2 0)) : Nat) : Int)]] : List (List Int))) x11 x12).1) 2)
          (a62l0 x0 x1 x2 x3 x4 x5 x6 x7 x8 x9 x10 x11 x12 (0, [], []))
          none)))
       none)
      none)
     none)
    (cond ((((x12.getD (Int.toNat x0) []).getD 0 0) : Int) == 2)
     (cond (Nat.blt (Int.toNat x0) x12.length)
      (cond ((decide ((0 : Int) ≤ ((x12.getD (Int.toNat x0) []).getD 1 0))) && (Nat.blt (Int.toNat ((x12.getD (Int.toNat x0) []).getD 1 0)) 4))
       (cond (Nat.beq (0 + (Int.toNat ((x12.getD (Int.toNat x0) []).getD 1 0)) * 2) 0)
        (cond (Nat.ble ((x10.length + 1) * 9) 140737488355328)
         (cond (Nat.beq ((ih (IntKind.i64.wrap (x0 + 1)) x1 x2 x3 x4 x5 x6 x7 x8 x9 (((x10.drop 0).take x10.length) ++ ([[((x1 : Nat) : Int), ((x2 : Nat) : Int)]] : List (List Int))) x11 x12).1) 0)
          (a62l0 x0 x1 x2 x3 x4 x5 x6 x7 x8 x9 x10 x11 x12 (0, [], []))
          (cond (Nat.beq ((ih (IntKind.i64.wrap (x0 + 1)) x1 x2 x3 x4 x5 x6 x7 x8 x9 (((x10.drop 0).take x10.length) ++ ([[((x1 : Nat) : Int), ((x2 : Nat) : Int)]] : List (List Int))) x11 x12).1) 1)
           (a62l0 x0 x1 x2 x3 x4 x5 x6 x7 x8 x9 x10 x11 x12 (1, ((ih (IntKind.i64.wrap (x0 + 1)) x1 x2 x3 x4 x5 x6 x7 x8 x9 (((x10.drop 0).take x10.length) ++ ([[((x1 : Nat) : Int), ((x2 : Nat) : Int)]] : List (List Int))) x11 x12).2.1), []))
           (cond (Nat.beq ((ih (IntKind.i64.wrap (x0 + 1)) x1 x2 x3 x4 x5 x6 x7 x8 x9 (((x10.drop 0).take x10.length) ++ ([[((x1 : Nat) : Int), ((x2 : Nat) : Int)]] : List (List Int))) x11 x12).1) 2)
            (a62l0 x0 x1 x2 x3 x4 x5 x6 x7 x8 x9 x10 x11 x12 (0, [], []))
            none)))
         none)
        (cond (Nat.beq (0 + (Int.toNat ((x12.getD (Int.toNat x0) []).getD 1 0)) * 2) 1)
         (cond (Nat.ble ((x10.length + 1) * 9) 140737488355328)
          (cond (Nat.beq ((ih (IntKind.i64.wrap (x0 + 1)) x1 x2 x3 x4 x5 x6 x7 x8 x9 (((x10.drop 0).take x10.length) ++ ([[((x2 : Nat) : Int), ((x3 : Nat) : Int)]] : List (List Int))) x11 x12).1) 0)
           (a62l0 x0 x1 x2 x3 x4 x5 x6 x7 x8 x9 x10 x11 x12 (0, [], []))
           (cond (Nat.beq ((ih (IntKind.i64.wrap (x0 + 1)) x1 x2 x3 x4 x5 x6 x7 x8 x9 (((x10.drop 0).take x10.length) ++ ([[((x2 : Nat) : Int), ((x3 : Nat) : Int)]] : List (List Int))) x11 x12).1) 1)
            (a62l0 x0 x1 x2 x3 x4 x5 x6 x7 x8 x9 x10 x11 x12 (1, ((ih (IntKind.i64.wrap (x0 + 1)) x1 x2 x3 x4 x5 x6 x7 x8 x9 (((x10.drop 0).take x10.length) ++ ([[((x2 : Nat) : Int), ((x3 : Nat) : Int)]] : List (List Int))) x11 x12).2.1), []))
            (cond (Nat.beq ((ih (IntKind.i64.wrap (x0 + 1)) x1 x2 x3 x4 x5 x6 x7 x8 x9 (((x10.drop 0).take x10.length) ++ ([[((x2 : Nat) : Int), ((x3 : Nat) : Int)]] : List (List Int))) x11 x12).1) 2)
             (a62l0 x0 x1 x2 x3 x4 x5 x6 x7 x8 x9 x10 x11 x12 (0, [], []))
             none)))
          none)
         (cond (Nat.beq (0 + (Int.toNat ((x12.getD (Int.toNat x0) []).getD 1 0)) * 2) 2)
          (cond (Nat.ble ((x10.length + 1) * 9) 140737488355328)
           (cond (Nat.beq ((ih (IntKind.i64.wrap (x0 + 1)) x1 x2 x3 x4 x5 x6 x7 x8 x9 (((x10.drop 0).take x10.length) ++ ([[((x3 : Nat) : Int), ((x4 : Nat) : Int)]] : List (List Int))) x11 x12).1) 0)
            (a62l0 x0 x1 x2 x3 x4 x5 x6 x7 x8 x9 x10 x11 x12 (0, [], []))
            (cond (Nat.beq ((ih (IntKind.i64.wrap (x0 + 1)) x1 x2 x3 x4 x5 x6 x7 x8 x9 (((x10.drop 0).take x10.length) ++ ([[((x3 : Nat) : Int), ((x4 : Nat) : Int)]] : List (List Int))) x11 x12).1) 1)
             (a62l0 x0 x1 x2 x3 x4 x5 x6 x7 x8 x9 x10 x11 x12 (1, ((ih (IntKind.i64.wrap (x0 + 1)) x1 x2 x3 x4 x5 x6 x7 x8 x9 (((x10.drop 0).take x10.length) ++ ([[((x3 : Nat) : Int), ((x4 : Nat) : Int)]] : List (List Int))) x11 x12).2.1), []))
             (cond (Nat.beq ((ih (IntKind.i64.wrap (x0 + 1)) x1 x2 x3 x4 x5 x6 x7 x8 x9 (((x10.drop 0).take x10.length) ++ ([[((x3 : Nat) : Int), ((x4 : Nat) : Int)]] : List (List Int))) x11 x12).1) 2)
              (a62l0 x0 x1 x2 x3 x4 x5 x6 x7 x8 x9 x10 x11 x12 (0, [], []))
              none)))
           none)
          (cond (Nat.beq (0 + (Int.toNat ((x12.getD (Int.toNat x0) []).getD 1 0)) * 2) 3)
           (cond (Nat.ble ((x10.length + 1) * 9) 140737488355328)
            (cond (Nat.beq ((ih (IntKind.i64.wrap (x0 + 1)) x1 x2 x3 x4 x5 x6 x7 x8 x9 (((x10.drop 0).take x10.length) ++ ([[((x4 : Nat) : Int), ((x5 : Nat) : Int)]] : List (List Int))) x11 x12).1) 0)
             (a62l0 x0 x1 x2 x3 x4 x5 x6 x7 x8 x9 x10 x11 x12 (0, [], []))
             (cond (Nat.beq ((ih (IntKind.i64.wrap (x0 + 1)) x1 x2 x3 x4 x5 x6 x7 x8 x9 (((x10.drop 0).take x10.length) ++ ([[((x4 : Nat) : Int), ((x5 : Nat) : Int)]] : List (List Int))) x11 x12).1) 1)
              (a62l0 x0 x1 x2 x3 x4 x5 x6 x7 x8 x9 x10 x11 x12 (1, ((ih (IntKind.i64.wrap (x0 + 1)) x1 x2 x3 x4 x5 x6 x7 x8 x9 (((x10.drop 0).take x10.length) ++ ([[((x4 : Nat) : Int), ((x5 : Nat) : Int)]] : List (List Int))) x11 x12).2.1), []))
              (cond (Nat.beq ((ih (IntKind.i64.wrap (x0 + 1)) x1 x2 x3 x4 x5 x6 x7 x8 x9 (((x10.drop 0).take x10.length) ++ ([[((x4 : Nat) : Int), ((x5 : Nat) : Int)]] : List (List Int))) x11 x12).1) 2)
               (a62l0 x0 x1 x2 x3 x4 x5 x6 x7 x8 x9 x10 x11 x12 (0, [], []))
               none)))
            none)
           (cond (Nat.beq (0 + (Int.toNat ((x12.getD (Int.toNat x0) []).getD 1 0)) * 2) 4)
            (cond (Nat.ble ((x10.length + 1) * 9) 140737488355328)
             (cond (Nat.beq ((ih (IntKind.i64.wrap (x0 + 1)) x1 x2 x3 x4 x5 x6 x7 x8 x9 (((x10.drop 0).take x10.length) ++ ([[((x5 : Nat) : Int), ((x6 : Nat) : Int)]] : List (List Int))) x11 x12).1) 0)
              (a62l0 x0 x1 x2 x3 x4 x5 x6 x7 x8 x9 x10 x11 x12 (0, [], []))
              (cond (Nat.beq ((ih (IntKind.i64.wrap (x0 + 1)) x1 x2 x3 x4 x5 x6 x7 x8 x9 (((x10.drop 0).take x10.length) ++ ([[((x5 : Nat) : Int), ((x6 : Nat) : Int)]] : List (List Int))) x11 x12).1) 1)
               (a62l0 x0 x1 x2 x3 x4 x5 x6 x7 x8 x9 x10 x11 x12 (1, ((ih (IntKind.i64.wrap (x0 + 1)) x1 x2 x3 x4 x5 x6 x7 x8 x9 (((x10.drop 0).take x10.length) ++ ([[((x5 : Nat) : Int), ((x6 : Nat) : Int)]] : List (List Int))) x11 x12).2.1), []))
               (cond (Nat.beq ((ih (IntKind.i64.wrap (x0 + 1)) x1 x2 x3 x4 x5 x6 x7 x8 x9 (((x10.drop 0).take x10.length) ++ ([[((x5 : Nat) : Int), ((x6 : Nat) : Int)]] : List (List Int))) x11 x12).1) 2)
                (a62l0 x0 x1 x2 x3 x4 x5 x6 x7 x8 x9 x10 x11 x12 (0, [], []))
                none)))
             none)
            (cond (Nat.beq (0 + (Int.toNat ((x12.getD (Int.toNat x0) []).getD 1 0)) * 2) 5)
             (cond (Nat.ble ((x10.length + 1) * 9) 140737488355328)
              (cond (Nat.beq ((ih (IntKind.i64.wrap (x0 + 1)) x1 x2 x3 x4 x5 x6 x7 x8 x9 (((x10.drop 0).take x10.length) ++ ([[((x6 : Nat) : Int), ((x7 : Nat) : Int)]] : List (List Int))) x11 x12).1) 0)
               (a62l0 x0 x1 x2 x3 x4 x5 x6 x7 x8 x9 x10 x11 x12 (0, [], []))
               (cond (Nat.beq ((ih (IntKind.i64.wrap (x0 + 1)) x1 x2 x3 x4 x5 x6 x7 x8 x9 (((x10.drop 0).take x10.length) ++ ([[((x6 : Nat) : Int), ((x7 : Nat) : Int)]] : List (List Int))) x11 x12).1) 1)
                (a62l0 x0 x1 x2 x3 x4 x5 x6 x7 x8 x9 x10 x11 x12 (1, ((ih (IntKind.i64.wrap (x0 + 1)) x1 x2 x3 x4 x5 x6 x7 x8 x9 (((x10.drop 0).take x10.length) ++ ([[((x6 : Nat) : Int), ((x7 : Nat) : Int)]] : List (List Int))) x11 x12).2.1), []))
                (cond (Nat.beq ((ih (IntKind.i64.wrap (x0 + 1)) x1 x2 x3 x4 x5 x6 x7 x8 x9 (((x10.drop 0).take x10.length) ++ ([[((x6 : Nat) : Int), ((x7 : Nat) : Int)]] : List (List Int))) x11 x12).1) 2)
                 (a62l0 x0 x1 x2 x3 x4 x5 x6 x7 x8 x9 x10 x11 x12 (0, [], []))
                 none)))
              none)
             (cond (Nat.beq (0 + (Int.toNat ((x12.getD (Int.toNat x0) []).getD 1 0)) * 2) 6)
              (cond (Nat.ble ((x10.length + 1) * 9) 140737488355328)
               (cond (Nat.beq ((ih (IntKind.i64.wrap (x0 + 1)) x1 x2 x3 x4 x5 x6 x7 x8 x9 (((x10.drop 0).take x10.length) ++ ([[((x7 : Nat) : Int), ((x8 : Nat) : Int)]] : List (List Int))) x11 x12).1) 0)
                (a62l0 x0 x1 x2 x3 x4 x5 x6 x7 x8 x9 x10 x11 x12 (0, [], []))
                (cond (Nat.beq ((ih (IntKind.i64.wrap (x0 + 1)) x1 x2 x3 x4 x5 x6 x7 x8 x9 (((x10.drop 0).take x10.length) ++ ([[((x7 : Nat) : Int), ((x8 : Nat) : Int)]] : List (List Int))) x11 x12).1) 1)
                 (a62l0 x0 x1 x2 x3 x4 x5 x6 x7 x8 x9 x10 x11 x12 (1, ((ih (IntKind.i64.wrap (x0 + 1)) x1 x2 x3 x4 x5 x6 x7 x8 x9 (((x10.drop 0).take x10.length) ++ ([[((x7 : Nat) : Int), ((x8 : Nat) : Int)]] : List (List Int))) x11 x12).2.1), []))
                 (cond (Nat.beq ((ih (IntKind.i64.wrap (x0 + 1)) x1 x2 x3 x4 x5 x6 x7 x8 x9 (((x10.drop 0).take x10.length) ++ ([[((x7 : Nat) : Int), ((x8 : Nat) : Int)]] : List (List Int))) x11 x12).1) 2)
                  (a62l0 x0 x1 x2 x3 x4 x5 x6 x7 x8 x9 x10 x11 x12 (0, [], []))
                  none)))
               none)
              none)))))))
       none)
      none)
     (cond ((((x12.getD (Int.toNat x0) []).getD 0 0) : Int) == 3)
      (cond (Nat.blt (Int.toNat x0) x12.length)
       (cond ((decide ((0 : Int) ≤ ((x12.getD (Int.toNat x0) []).getD 1 0))) && (Nat.blt (Int.toNat ((x12.getD (Int.toNat x0) []).getD 1 0)) x9.length))
        (cond (Nat.blt (Int.toNat ((x12.getD (Int.toNat x0) []).getD 1 0)) x9.length)
         (cond (Nat.ble ((x10.length + 1) * 9) 140737488355328)
          (cond (Nat.beq ((ih (IntKind.i64.wrap (x0 + 1)) x1 x2 x3 x4 x5 x6 x7 x8 x9 (((x10.drop 0).take x10.length) ++ ([[(((Int.toNat ((x9.getD (Int.toNat ((x12.getD (Int.toNat x0) []).getD 1 0)) []).getD 0 0)) : Nat) : Int), (((Int.toNat ((x9.getD (Int.toNat ((x12.getD (Int.toNat x0) []).getD 1 0)) []).getD 1 0)) : Nat) : Int)]] : List (List Int))) x11 x12).1) 0)
           (a62l0 x0 x1 x2 x3 x4 x5 x6 x7 x8 x9 x10 x11 x12 (0, [], []))
           (cond (Nat.beq ((ih (IntKind.i64.wrap (x0 + 1)) x1 x2 x3 x4 x5 x6 x7 x8 x9 (((x10.drop 0).take x10.length) ++ ([[(((Int.toNat ((x9.getD (Int.toNat ((x12.getD (Int.toNat x0) []).getD 1 0)) []).getD 0 0)) : Nat) : Int), (((Int.toNat ((x9.getD (Int.toNat ((x12.getD (Int.toNat x0) []).getD 1 0)) []).getD 1 0)) : Nat) : Int)]] : List (List Int))) x11 x12).1) 1)
            (a62l0 x0 x1 x2 x3 x4 x5 x6 x7 x8 x9 x10 x11 x12 (1, ((ih (IntKind.i64.wrap (x0 + 1)) x1 x2 x3 x4 x5 x6 x7 x8 x9 (((x10.drop 0).take x10.length) ++ ([[(((Int.toNat ((x9.getD (Int.toNat ((x12.getD (Int.toNat x0) []).getD 1 0)) []).getD 0 0)) : Nat) : Int), (((Int.toNat ((x9.getD (Int.toNat ((x12.getD (Int.toNat x0) []).getD 1 0)) []).getD 1 0)) : Nat) : Int)]] : List (List Int))) x11 x12).2.1), []))
            (cond (Nat.beq ((ih (IntKind.i64.wrap (x0 + 1)) x1 x2 x3 x4 x5 x6 x7 x8 x9 (((x10.drop 0).take x10.length) ++ ([[(((Int.toNat ((x9.getD (Int.toNat ((x12.getD (Int.toNat x0) []).getD 1 0)) []).getD 0 0)) : Nat) : Int), (((Int.toNat ((x9.getD (Int.toNat ((x12.getD (Int.toNat x0) []).getD 1 0)) []).getD 1 0)) : Nat) : Int)]] : List (List Int))) x11 x12).1) 2)
             (a62l0 x0 x1 x2 x3 x4 x5 x6 x7 x8 x9 x10 x11 x12 (0, [], []))
             none)))
          none)
         none)
        none)
       none)
      (cond ((((x12.getD (Int.toNat x0) []).getD 0 0) : Int) == 4)
       (cond ((decide ((0 : Int) ≤ (IntKind.i64.wrap (((x10.length : Nat) : Int) - 1)))) && (Nat.blt (Int.toNat (IntKind.i64.wrap (((x10.length : Nat) : Int) - 1))) x10.length))
        (cond (Nat.blt (Int.toNat (IntKind.i64.wrap (((x10.length : Nat) : Int) - 1))) x10.length)
         (cond (Nat.ble ((x9.length + 1) * 9) 140737488355328)
          (cond ((Nat.blt 0 x10.length) && (((decide ((0 : Int) ≤ (IntKind.i64.wrap (((x10.length : Nat) : Int) - 1)))) && (Nat.ble 0 (Int.toNat (IntKind.i64.wrap (((x10.length : Nat) : Int) - 1))))) && (Nat.ble (Int.toNat (IntKind.i64.wrap (((x10.length : Nat) : Int) - 1))) x10.length)))
           (cond (Nat.ble (Int.toNat (IntKind.i64.wrap (((x10.length : Nat) : Int) - 1))) x10.length)
            (cond (Nat.beq ((ih (IntKind.i64.wrap (x0 + 1)) x1 x2 x3 x4 x5 x6 x7 x8 (((x9.drop 0).take x9.length) ++ ([[(((Int.toNat ((x10.getD (Int.toNat (IntKind.i64.wrap (((x10.length : Nat) : Int) - 1))) []).getD 0 0)) : Nat) : Int), (((Int.toNat ((x10.getD (Int.toNat (IntKind.i64.wrap (((x10.length : Nat) : Int) - 1))) []).getD 1 0)) : Nat) : Int)]] : List (List Int))) ((x10.drop 0).take (Int.toNat (IntKind.i64.wrap (((x10.length : Nat) : Int) - 1)))) x11 x12).1) 0)
             (a62l0 x0 x1 x2 x3 x4 x5 x6 x7 x8 x9 x10 x11 x12 (1, (((x9.drop 0).take x9.length) ++ ([[(((Int.toNat ((x10.getD (Int.toNat (IntKind.i64.wrap (((x10.length : Nat) : Int) - 1))) []).getD 0 0)) : Nat) : Int), (((Int.toNat ((x10.getD (Int.toNat (IntKind.i64.wrap (((x10.length : Nat) : Int) - 1))) []).getD 1 0)) : Nat) : Int)]] : List (List Int))), []))
             (cond (Nat.beq ((ih (IntKind.i64.wrap (x0 + 1)) x1 x2 x3 x4 x5 x6 x7 x8 (((x9.drop 0).take x9.length) ++ ([[(((Int.toNat ((x10.getD (Int.toNat (IntKind.i64.wrap (((x10.length : Nat) : Int) - 1))) []).getD 0 0)) : Nat) : Int), (((Int.toNat ((x10.getD (Int.toNat (IntKind.i64.wrap (((x10.length : Nat) : Int) - 1))) []).getD 1 0)) : Nat) : Int)]] : List (List Int))) ((x10.drop 0).take (Int.toNat (IntKind.i64.wrap (((x10.length : Nat) : Int) - 1)))) x11 x12).1) 1)
              (a62l0 x0 x1 x2 x3 x4 x5 x6 x7 x8 x9 x10 x11 x12 (1, ((ih (IntKind.i64.wrap (x0 + 1)) x1 x2 x3 x4 x5 x6 x7 x8 (((x9.drop 0).take x9.length) ++ ([[(((Int.toNat ((x10.getD (Int.toNat (IntKind.i64.wrap (((x10.length : Nat) : Int) - 1))) []).getD 0 0)) : Nat) : Int), (((Int.toNat ((x10.getD (Int.toNat (IntKind.i64.wrap (((x10.length : Nat) : Int) - 1))) []).getD 1 0)) : Nat) : Int)]] : List (List Int))) ((x10.drop 0).take (Int.toNat (IntKind.i64.wrap (((x10.length : Nat) : Int) - 1)))) x11 x12).2.1), []))
              (cond (Nat.beq ((ih (IntKind.i64.wrap (x0 + 1)) x1 x2 x3 x4 x5 x6 x7 x8 (((x9.drop 0).take x9.length) ++ ([[(((Int.toNat ((x10.getD (Int.toNat (IntKind.i64.wrap (((x10.length : Nat) : Int) - 1))) []).getD 0 0)) : Nat) : Int), (((Int.toNat ((x10.getD (Int.toNat (IntKind.i64.wrap (((x10.length : Nat) : Int) - 1))) []).getD 1 0)) : Nat) : Int)]] : List (List Int))) ((x10.drop 0).take (Int.toNat (IntKind.i64.wrap (((x10.length : Nat) : Int) - 1)))) x11 x12).1) 2)
               (a62l0 x0 x1 x2 x3 x4 x5 x6 x7 x8 x9 x10 x11 x12 (1, (((x9.drop 0).take x9.length) ++ ([[(((Int.toNat ((x10.getD (Int.toNat (IntKind.i64.wrap (((x10.length : Nat) : Int) - 1))) []).getD 0 0)) : Nat) : Int), (((Int.toNat ((x10.getD (Int.toNat (IntKind.i64.wrap (((x10.length : Nat) : Int) - 1))) []).getD 1 0)) : Nat) : Int)]] : List (List Int))), []))
               none)))
            none)
           none)
          none)
         none)
        none)
       (cond ((((x12.getD (Int.toNat x0) []).getD 0 0) : Int) == 12)
        (cond ((decide ((0 : Int) ≤ (IntKind.i64.wrap (((x10.length : Nat) : Int) - 1)))) && (Nat.blt (Int.toNat (IntKind.i64.wrap (((x10.length : Nat) : Int) - 1))) x10.length))
         (cond (Nat.blt (Int.toNat (IntKind.i64.wrap (((x10.length : Nat) : Int) - 1))) x10.length)
          (cond ((decide ((0 : Int) ≤ (IntKind.i64.wrap (((x10.length : Nat) : Int) - 1)))) && (Nat.blt (Int.toNat (IntKind.i64.wrap (((x10.length : Nat) : Int) - 1))) x10.length))
           (cond (Nat.blt (Int.toNat (IntKind.i64.wrap (((x10.length : Nat) : Int) - 1))) x10.length)
            (cond ((decide ((0 : Int) ≤ (IntKind.i64.wrap (((x10.length : Nat) : Int) - 1)))) && (Nat.blt (Int.toNat (IntKind.i64.wrap (((x10.length : Nat) : Int) - 1))) x10.length))
             (cond (Nat.blt (Int.toNat (IntKind.i64.wrap (((x10.length : Nat) : Int) - 1))) x10.length)
              (u62l0 x0 x1 x2 x3 x4 x5 x6 x7 x8 x9 x10 x11 x12 (ih (IntKind.i64.wrap (x0 + 1)) x1 x2 x3 x4 x5 x6 x7 x8 x9 (x10.set (Int.toNat (IntKind.i64.wrap (((x10.length : Nat) : Int) - 1))) [(((fneg .f32 (Int.toNat ((x10.getD (Int.toNat (IntKind.i64.wrap (((x10.length : Nat) : Int) - 1))) []).getD 1 0))) : Nat) : Int), (((fneg .f32 (Int.toNat ((x10.getD (Int.toNat (IntKind.i64.wrap (((x10.length : Nat) : Int) - 1))) []).getD 0 0))) : Nat) : Int)]) x11 x12))
              none)
             none)
            none)
           none)
          none)
         none)
        (cond ((((x12.getD (Int.toNat x0) []).getD 0 0) : Int) == 11)
         (cond ((decide ((0 : Int) ≤ (IntKind.i64.wrap (((x10.length : Nat) : Int) - 3)))) && (Nat.blt (Int.toNat (IntKind.i64.wrap (((x10.length : Nat) : Int) - 3))) x10.length))
          (cond (Nat.blt (Int.toNat (IntKind.i64.wrap (((x10.length : Nat) : Int) - 3))) x10.length)
           (cond ((decide ((0 : Int) ≤ (IntKind.i64.wrap (((x10.length : Nat) : Int) - 2)))) && (Nat.blt (Int.toNat (IntKind.i64.wrap (((x10.length : Nat) : Int) - 2))) x10.length))
            (cond (Nat.blt (Int.toNat (IntKind.i64.wrap (((x10.length : Nat) : Int) - 2))) x10.length)
             (cond ((decide ((0 : Int) ≤ (IntKind.i64.wrap (((x10.length : Nat) : Int) - 1)))) && (Nat.blt (Int.toNat (IntKind.i64.wrap (((x10.length : Nat) : Int) - 1))) x10.length))
              (cond (Nat.blt (Int.toNat (IntKind.i64.wrap (((x10.length : Nat) : Int) - 1))) x10.length)
               (cond ((decide ((0 : Int) ≤ (IntKind.i64.wrap (((x10.length : Nat) : Int) - 3)))) && (Nat.blt (Int.toNat (IntKind.i64.wrap (((x10.length : Nat) : Int) - 3))) x10.length))
                (cond (Nat.blt (Int.toNat (IntKind.i64.wrap (((x10.length : Nat) : Int) - 3))) x10.length)
                 (cond ((Nat.blt 0 ((x10.set (Int.toNat (IntKind.i64.wrap (((x10.length : Nat) : Int) - 3))) [(((c31.1) : Nat) : Int), (((c31.2) : Nat) : Int)]).length)) && (((decide ((0 : Int) ≤ (IntKind.i64.wrap (((x10.length : Nat) : Int) - 2)))) && (Nat.ble 0 (Int.toNat (IntKind.i64.wrap (((x10.length : Nat) : Int) - 2))))) && (Nat.ble (Int.toNat (IntKind.i64.wrap (((x10.length : Nat) : Int) - 2))) ((x10.set (Int.toNat (IntKind.i64.wrap (((x10.length : Nat) : Int) - 3))) [(((c31.1) : Nat) : Int), (((c31.2) : Nat) : Int)]).length))))
                  (cond (Nat.ble (Int.toNat (IntKind.i64.wrap (((x10.length : Nat) : Int) - 2))) ((x10.set (Int.toNat (IntKind.i64.wrap (((x10.length : Nat) : Int) - 3))) [(((c31.1) : Nat) : Int), (((c31.2) : Nat) : Int)]).length))
                   (cond (Nat.beq ((ih (IntKind.i64.wrap (x0 + 1)) x1 x2 x3 x4 x5 x6 x7 x8 x9 (((x10.set (Int.toNat (IntKind.i64.wrap (((x10.length : Nat) : Int) - 3))) [(((c31.1) : Nat) : Int), (((c31.2) : Nat) : Int)]).drop 0).take (Int.toNat (IntKind.i64.wrap (((x10.length : Nat) : Int) - 2)))) x11 x12).1) 0)
                    (a62l0 x0 x1 x2 x3 x4 x5 x6 x7 x8 x9 x10 x11 x12 (0, [], []))
                    (cond (Nat.beq ((ih (IntKind.i64.wrap (x0 + 1)) x1 x2 x3 x4 x5 x6 x7 x8 x9 (((x10.set (Int.toNat (IntKind.i64.wrap (((x10.length : Nat) : Int) - 3))) [(((c31.1) : Nat) : Int), (((c31.2) : Nat) : Int)]).drop 0).take (Int.toNat (IntKind.i64.wrap (((x10.length : Nat) : Int) - 2)))) x11 x12).1) 1)
                     (a62l0 x0 x1 x2 x3 x4 x5 x6 x7 x8 x9 x10 x11 x12 (1, ((ih (IntKind.i64.wrap (x0 + 1)) x1 x2 x3 x4 x5 x6 x7 x8 x9 (((x10.set (Int.toNat (IntKind.i64.wrap (((x10.length : Nat) : Int) - 3))) [(((c31.1) : Nat) : Int), (((c31.2) : Nat) : Int)]).drop 0).take (Int.toNat (IntKind.i64.wrap (((x10.length : Nat) : Int) - 2)))) x11 x12).2.1), []))
                     (cond (Nat.beq ((ih (IntKind.i64.wrap (x0 + 1)) x1 x2 x3 x4 x5 x6 x7 x8 x9 (((x10.set (Int.toNat (IntKind.i64.wrap (((x10.length : Nat) : Int) - 3))) [(((c31.1) : Nat) : Int), (((c31.2) : Nat) : Int)]).drop 0).take (Int.toNat (IntKind.i64.wrap (((x10.length : Nat) : Int) - 2)))) x11 x12).1) 2)
                      (a62l0 x0 x1 x2 x3 x4 x5 x6 x7 x8 x9 x10 x11 x12 (0, [], []))
                      none)))
                   none)
                  none)
                 none)
                none)
               none)
              none)
             none)
            none)
           none)
          none)
         (cond (Nat.blt (Int.toNat x0) x12.length)
          (cond ((decide ((0 : Int) ≤ (IntKind.i64.wrap (((x10.length : Nat) : Int) - 2)))) && (Nat.blt (Int.toNat (IntKind.i64.wrap (((x10.length : Nat) : Int) - 2))) x10.length))
           (cond (Nat.blt (Int.toNat (IntKind.i64.wrap (((x10.length : Nat) : Int) - 2))) x10.length)
            (cond ((decide ((0 : Int) ≤ (IntKind.i64.wrap (((x10.length : Nat) : Int) - 1)))) && (Nat.blt (Int.toNat (IntKind.i64.wrap (((x10.length : Nat) : Int) - 1))) x10.length))
             (cond (Nat.blt (Int.toNat (IntKind.i64.wrap (((x10.length : Nat) : Int) - 1))) x10.length)
              (cond (Nat.beq (c32.1) 0)
               (cond ((decide ((0 : Int) ≤ (IntKind.i64.wrap (((x10.length : Nat) : Int) - 2)))) && (Nat.blt (Int.toNat (IntKind.i64.wrap (((x10.length : Nat) : Int) - 2))) x10.length))
                (cond (Nat.blt (Int.toNat (IntKind.i64.wrap (((x10.length : Nat) : Int) - 2))) x10.length)
                 (cond ((Nat.blt 0 ((x10.set (Int.toNat (IntKind.i64.wrap (((x10.length : Nat) : Int) - 2))) [(((c32.2.1) : Nat) : Int), (((c32.2.2) : Nat) : Int)]).length)) && (((decide ((0 : Int) ≤ (IntKind.i64.wrap (((x10.length : Nat) : Int) - 1)))) && (Nat.ble 0 (Int.toNat (IntKind.i64.wrap (((x10.length : Nat) : Int) - 1))))) && (Nat.ble (Int.toNat (IntKind.i64.wrap (((x10.length : Nat) : Int) - 1))) ((x10.set (Int.toNat (IntKind.i64.wrap (((x10.length : Nat) : Int) - 2))) [(((c32.2.1) : Nat) : Int), (((c32.2.2) : Nat) : Int)]).length))))
                  (cond (Nat.ble (Int.toNat (IntKind.i64.wrap (((x10.length : Nat) : Int) - 1))) ((x10.set (Int.toNat (IntKind.i64.wrap (((x10.length : Nat) : Int) - 2))) [(((c32.2.1) : Nat) : Int), (((c32.2.2) : Nat) : Int)]).length))
                   (cond (Nat.beq ((ih (IntKind.i64.wrap (x0 + 1)) x1 x2 x3 x4 x5 x6 x7 x8 x9 (((x10.set (Int.toNat (IntKind.i64.wrap (((x10.length : Nat) : Int) - 2))) [(((c32.2.1) : Nat) : Int), (((c32.2.2) : Nat) : Int)]).drop 0).take (Int.toNat (IntKind.i64.wrap (((x10.length : Nat) : Int) - 1)))) x11 x12).1) 0)
                    (a62l0 x0 x1 x2 x3 x4 x5 x6 x7 x8 x9 x10 x11 x12 (0, [], []))
                    (cond (Nat.beq ((ih (IntKind.i64.wrap (x0 + 1)) x1 x2 x3 x4 x5 x6 x7 x8 x9 (((x10.set (Int.toNat (IntKind.i64.wrap (((x10.length : Nat) : Int) - 2))) [(((c32.2.1) : Nat) : Int), (((c32.2.2) : Nat) : Int)]).drop 0).take (Int.toNat (IntKind.i64.wrap (((x10.length : Nat) : Int) - 1)))) x11 x12).1) 1)
                     (a62l0 x0 x1 x2 x3 x4 x5 x6 x7 x8 x9 x10 x11 x12 (1, ((ih (IntKind.i64.wrap (x0 + 1)) x1 x2 x3 x4 x5 x6 x7 x8 x9 (((x10.set (Int.toNat (IntKind.i64.wrap (((x10.length : Nat) : Int) - 2))) [(((c32.2.1) : Nat) : Int), (((c32.2.2) : Nat) : Int)]).drop 0).take (Int.toNat (IntKind.i64.wrap (((x10.length : Nat) : Int) - 1)))) x11 x12).2.1), []))
                     (cond (Nat.beq ((ih (IntKind.i64.wrap (x0 + 1)) x1 x2 x3 x4 x5 x6 x7 x8 x9 (((x10.set (Int.toNat (IntKind.i64.wrap (((x10.length : Nat) : Int) - 2))) [(((c32.2.1) : Nat) : Int), (((c32.2.2) : Nat) : Int)]).drop 0).take (Int.toNat (IntKind.i64.wrap (((x10.length : Nat) : Int) - 1)))) x11 x12).1) 2)
                      (a62l0 x0 x1 x2 x3 x4 x5 x6 x7 x8 x9 x10 x11 x12 (0, [], []))
                      none)))
                   none)
                  none)
                 none)
                none)
               none)
              none)
             none)
            none)
           none)
          none)))))))
   none)
  none)
 (a62l0 x0 x1 x2 x3 x4 x5 x6 x7 x8 x9 x10 x11 x12 (2, [], x10)))
set_option maxRecDepth 100000 in
set_option maxHeartbeats 4000000 in
theorem e62l0 (m : Nat) (x0 : Int) (x1 x2 x3 x4 x5 x6 x7 x8 : Nat) (x9 x10 : List (List Int)) (x11 : List ByteArray) (x12 : List (List Int)) : evC Try.prog ext T35 noL 200 (loopN Try.f62 0) (loopTail ([0, 3, 5, 6, 7], [6]) [5] [2, 3] (sumK 155 [0, 3, 5, 6, 7] [5] (q62l0 m))) (frameOf 155 [0, 3, 5, 6, 7] [.pointer (some ⟨0, 0, some 0⟩), .pointer (some ⟨1, 0, some 0⟩), wsl 2, wsl 3, .int .i64 x0]) ⟨[⟨true, (some (.cells [wsl 4, wsl 5]))⟩, ⟨true, (some (.cells [.float .f32 x1, .float .f32 x2, .float .f32 x3, .float .f32 x4, .float .f32 x5, .float .f32 x6, .float .f32 x7, .float .f32 x8]))⟩, ⟨true, (some (.tab [.fl .f32, .fl .f32] x9))⟩, ⟨true, (some (.tab [.fl .f32, .fl .f32] x10))⟩, ⟨true, (some (.strs x11))⟩, ⟨true, (some (.tab [.int .i8, .int .i16, .fl .f32] x12))⟩], 6, []⟩ = firstT ([((Nat.beq ((r62l0 (m + 1) x0 x1 x2 x3 x4 x5 x6 x7 x8 x9 x10 x11 x12).1) 0), .exit 0, [wsl 2], ⟨[⟨true, (some (.cells [wsl 4, wsl 5]))⟩, ⟨true, (some (.cells [.float .f32 x1, .float .f32 x2, .float .f32 x3, .float .f32 x4, .float .f32 x5, .float .f32 x6, .float .f32 x7, .float .f32 x8]))⟩, ⟨true, (some (.tab [.fl .f32, .fl .f32] x9))⟩, ⟨true, none⟩, ⟨true, (some (.strs x11))⟩, ⟨true, (some (.tab [.int .i8, .int .i16, .fl .f32] x12))⟩], 6, [2, 3]⟩), ((Nat.beq ((r62l0 (m + 1) x0 x1 x2 x3 x4 x5 x6 x7 x8 x9 x10 x11 x12).1) 1), .exit 0, [wsl 6], ⟨[⟨true, (some (.cells [wsl 4, wsl 5]))⟩, ⟨true, (some (.cells [.float .f32 x1, .float .f32 x2, .float .f32 x3, .float .f32 x4, .float .f32 x5, .float .f32 x6, .float .f32 x7, .float .f32 x8]))⟩, ⟨true, none⟩, ⟨true, none⟩, ⟨true, (some (.strs x11))⟩, ⟨true, (some (.tab [.int .i8, .int .i16, .fl .f32] x12))⟩, ⟨true, (some (.tab [.fl .f32, .fl .f32] ((r62l0 (m + 1) x0 x1 x2 x3 x4 x5 x6 x7 x8 x9 x10 x11 x12).2.1)))⟩], 6, [2, 3]⟩), ((Nat.beq ((r62l0 (m + 1) x0 x1 x2 x3 x4 x5 x6 x7 x8 x9 x10 x11 x12).1) 2), .exit 0, [wsl 2], ⟨[⟨true, (some (.cells [wsl 4, wsl 5]))⟩, ⟨true, (some (.cells [.float .f32 x1, .float .f32 x2, .float .f32 x3, .float .f32 x4, .float .f32 x5, .float .f32 x6, .float .f32 x7, .float .f32 x8]))⟩, ⟨true, (some (.tab [.fl .f32, .fl .f32] x9))⟩, ⟨true, (some (.tab [.fl .f32, .fl .f32] ((r62l0 (m + 1) x0 x1 x2 x3 x4 x5 x6 x7 x8 x9 x10 x11 x12).2.2)))⟩, ⟨true, (some (.strs x11))⟩, ⟨true, (some (.tab [.int .i8, .int .i16, .fl .f32] x12))⟩], 6, [2, 3]⟩)].map fun (b, x) => (b, (x.1, frameOf 155 [5] x.2.1, x.2.2))) :=
 (show evC Try.prog ext T35 noL 200 (loopN Try.f62 0) (loopTail ([0, 3, 5, 6, 7], [6]) [5] [2, 3] (sumK 155 [0, 3, 5, 6, 7] [5] (q62l0 m))) (frameOf 155 [0, 3, 5, 6, 7] [.pointer (some ⟨0, 0, some 0⟩), .pointer (some ⟨1, 0, some 0⟩), wsl 2, wsl 3, .int .i64 x0]) ⟨[⟨true, (some (.cells [wsl 4, wsl 5]))⟩, ⟨true, (some (.cells [.float .f32 x1, .float .f32 x2, .float .f32 x3, .float .f32 x4, .float .f32 x5, .float .f32 x6, .float .f32 x7, .float .f32 x8]))⟩, ⟨true, (some (.tab [.fl .f32, .fl .f32] x9))⟩, ⟨true, (some (.tab [.fl .f32, .fl .f32] x10))⟩, ⟨true, (some (.strs x11))⟩, ⟨true, (some (.tab [.int .i8, .int .i16, .fl .f32] x12))⟩], 6, []⟩ = w62l0 (r62l0 m) x0 x1 x2 x3 x4 x5 x6 x7 x8 x9 x10 x11 x12 from by kernel_rfl).trans
 (show w62l0 (r62l0 m) x0 x1 x2 x3 x4 x5 x6 x7 x8 x9 x10 x11 x12 = a62l0 x0 x1 x2 x3 x4 x5 x6 x7 x8 x9 x10 x11 x12 (r62l0 (m + 1) x0 x1 x2 x3 x4 x5 x6 x7 x8 x9 x10 x11 x12) from by unfold w62l0; show _ = a62l0 x0 x1 x2 x3 x4 x5 x6 x7 x8 x9 x10 x11 x12 (b62l0 (r62l0 m) x0 x1 x2 x3 x4 x5 x6 x7 x8 x9 x10 x11 x12); unfold b62l0; exact (cond_both (a62l0 x0 x1 x2 x3 x4 x5 x6 x7 x8 x9 x10 x11 x12) _ (fun h0 => (cond_both (a62l0 x0 x1 x2 x3 x4 x5 x6 x7 x8 x9 x10 x11 x12) _ (fun h1 => (cond_t (ev_and2 h1) (cond_both (a62l0 x0 x1 x2 x3 x4 x5 x6 x7 x8 x9 x10 x11 x12) _ (fun h2 => (cond_t (ev_and2 h1) (cond_t (ev_and2 h1) (cond_app (a62l0 x0 x1 x2 x3 x4 x5 x6 x7 x8 x9 x10 x11 x12) _ (cond_app (a62l0 x0 x1 x2 x3 x4 x5 x6 x7 x8 x9 x10 x11 x12) _ rfl (cond_app (a62l0 x0 x1 x2 x3 x4 x5 x6 x7 x8 x9 x10 x11 x12) _ rfl (cond_app (a62l0 x0 x1 x2 x3 x4 x5 x6 x7 x8 x9 x10 x11 x12) _ rfl rfl))) rfl)))) (fun h2 => (cond_both (a62l0 x0 x1 x2 x3 x4 x5 x6 x7 x8 x9 x10 x11 x12) _ (fun h3 => (cond_t (ev_and2 h1) (cond_app (a62l0 x0 x1 x2 x3 x4 x5 x6 x7 x8 x9 x10 x11 x12) _ (cond_app (a62l0 x0 x1 x2 x3 x4 x5 x6 x7 x8 x9 x10 x11 x12) _ (cond_app (a62l0 x0 x1 x2 x3 x4 x5 x6 x7 x8 x9 x10 x11 x12) _ (cond_app (a62l0 x0 x1 x2 x3 x4 x5 x6 x7 x8 x9 x10 x11 x12) _ rfl (cond_app (a62l0 x0 x1 x2 x3 x4 x5 x6 x7 x8 x9 x10 x11 x12) _ rfl (cond_app (a62l0 x0 x1 x2 x3 x4 x5 x6 x7 x8 x9 x10 x11 x12) _ rfl rfl))) rfl) (cond_app (a62l0 x0 x1 x2 x3 x4 x5 x6 x7 x8 x9 x10 x11 x12) _ (cond_app (a62l0 x0 x1 x2 x3 x4 x5 x6 x7 x8 x9 x10 x11 x12) _ (cond_app (a62l0 x0 x1 x2 x3 x4 x5 x6 x7 x8 x9 x10 x11 x12) _ rfl (cond_app (a62l0 x0 x1 x2 x3 x4 x5 x6 x7 x8 x9 x10 x11 x12) _ rfl (cond_app (a62l0 x0 x1 x2 x3 x4 x5 x6 x7 x8 x9 x10 x11 x12) _ rfl rfl))) rfl) (cond_app (a62l0 x0 x1 x2 x3 x4 x5 x6 x7 x8 x9 x10 x11 x12) _ (cond_app (a62l0 x0 x1 x2 x3 x4 x5 x6 x7 x8 x9 x10 x11 x12) _ (cond_app (a62l0 x0 x1 x2 x3 x4 x5 x6 x7 x8 x9 x10 x11 x12) _ rfl (cond_app (a62l0 x0 x1 x2 x3 x4 x5 x6 x7 x8 x9 x10 x11 x12) _ rfl (cond_app (a62l0 x0 x1 x2 x3 x4 x5 x6 x7 x8 x9 x10 x11 x12) _ rfl rfl))) rfl) (cond_app (a62l0 x0 x1 x2 x3 x4 x5 x6 x7 x8 x9 x10 x11 x12) _ (cond_app (a62l0 x0 x1 x2 x3 x4 x5 x6 x7 x8 x9 x10 x11 x12) _ (cond_app (a62l0 x0 x1 x2 x3 x4 x5 x6 x7 x8 x9 x10 x11 x12) _ rfl (cond_app (a62l0 x0 x1 x2 x3 x4 x5 x6 x7 x8 x9 x10 x11 x12) _ rfl (cond_app (a62l0 x0 x1 x2 x3 x4 x5 x6 x7 x8 x9 x10 x11 x12) _ rfl rfl))) rfl) (cond_app (a62l0 x0 x1 x2 x3 x4 x5 x6 x7 x8 x9 x10 x11 x12) _ (cond_app (a62l0 x0 x1 x2 x3 x4 x5 x6 x7 x8 x9 x10 x11 x12) _ (cond_app (a62l0 x0 x1 x2 x3 x4 x5 x6 x7 x8 x9 x10 x11 x12) _ rfl (cond_app (a62l0 x0 x1 x2 x3 x4 x5 x6 x7 x8 x9 x10 x11 x12) _ rfl (cond_app (a62l0 x0 x1 x2 x3 x4 x5 x6 x7 x8 x9 x10 x11 x12) _ rfl rfl))) rfl) (cond_app (a62l0 x0 x1 x2 x3 x4 x5 x6 x7 x8 x9 x10 x11 x12) _ (cond_app (a62l0 x0 x1 x2 x3 x4 x5 x6 x7 x8 x9 x10 x11 x12) _ (cond_app (a62l0 x0 x1 x2 x3 x4 x5 x6 x7 x8 x9 x10 x11 x12) _ rfl (cond_app (a62l0 x0 x1 x2 x3 x4 x5 x6 x7 x8 x9 x10 x11 x12) _ rfl (cond_app (a62l0 x0 x1 x2 x3 x4 x5 x6 x7 x8 x9 x10 x11 x12) _ rfl rfl))) rfl) (cond_app (a62l0 x0 x1 x2 x3 x4 x5 x6 x7 x8 x9 x10 x11 x12) _ (cond_app (a62l0 x0 x1 x2 x3 x4 x5 x6 x7 x8 x9 x10 x11 x12) _ (cond_app (a62l0 x0 x1 x2 x3 x4 x5 x6 x7 x8 x9 x10 x11 x12) _ rfl (cond_app (a62l0 x0 x1 x2 x3 x4 x5 x6 x7 x8 x9 x10 x11 x12) _ rfl (cond_app (a62l0 x0 x1 x2 x3 x4 x5 x6 x7 x8 x9 x10 x11 x12) _ rfl rfl))) rfl) rfl))))))) rfl))) (fun h3 => (cond_both (a62l0 x0 x1 x2 x3 x4 x5 x6 x7 x8 x9 x10 x11 x12) _ (fun h4 => (cond_t (ev_and2 h1) (cond_both (a62l0 x0 x1 x2 x3 x4 x5 x6 x7 x8 x9 x10 x11 x12) _ (fun h5 => (cond_t (ev_and2 h5) (cond_app (a62l0 x0 x1 x2 x3 x4 x5 x6 x7 x8 x9 x10 x11 x12) _ (cond_app (a62l0 x0 x1 x2 x3 x4 x5 x6 x7 x8 x9 x10 x11 x12) _ rfl (cond_app (a62l0 x0 x1 x2 x3 x4 x5 x6 x7 x8 x9 x10 x11 x12) _ rfl (cond_app (a62l0 x0 x1 x2 x3 x4 x5 x6 x7 x8 x9 x10 x11 x12) _ rfl rfl))) rfl))) (fun h5 => rfl)))) (fun h4 => (cond_both (a62l0 x0 x1 x2 x3 x4 x5 x6 x7 x8 x9 x10 x11 x12) _ (fun h5 => (cond_both (a62l0 x0 x1 x2 x3 x4 x5 x6 x7 x8 x9 x10 x11 x12) _ (fun h6 => (cond_t (ev_and2 h6) (cond_both (a62l0 x0 x1 x2 x3 x4 x5 x6 x7 x8 x9 x10 x11 x12) _ (fun h7 => (cond_both (a62l0 x0 x1 x2 x3 x4 x5 x6 x7 x8 x9 x10 x11 x12) _ (fun h8 => (cond_t (ev_and2 (ev_and2 h8)) (cond_app (a62l0 x0 x1 x2 x3 x4 x5 x6 x7 x8 x9 x10 x11 x12) _ rfl (cond_app (a62l0 x0 x1 x2 x3 x4 x5 x6 x7 x8 x9 x10 x11 x12) _ rfl (cond_app (a62l0 x0 x1 x2 x3 x4 x5 x6 x7 x8 x9 x10 x11 x12) _ rfl rfl))))) (fun h8 => rfl))) (fun h7 => rfl)))) (fun h6 => rfl))) (fun h5 => (cond_both (a62l0 x0 x1 x2 x3 x4 x5 x6 x7 x8 x9 x10 x11 x12) _ (fun h6 => (cond_both (a62l0 x0 x1 x2 x3 x4 x5 x6 x7 x8 x9 x10 x11 x12) _ (fun h7 => (cond_t (ev_and2 h7) (cond_t h7 (cond_t (ev_and2 h7) (cond_t h7 (cond_t (ev_and2 h7) (v62l0 x0 x1 x2 x3 x4 x5 x6 x7 x8 x9 x10 x11 x12 ((r62l0 m) (IntKind.i64.wrap (x0 + 1)) x1 x2 x3 x4 x5 x6 x7 x8 x9 (x10.set (Int.toNat (IntKind.i64.wrap (((x10.length : Nat) : Int) - 1))) [(((fneg .f32 (Int.toNat ((x10.getD (Int.toNat (IntKind.i64.wrap (((x10.length : Nat) : Int) - 1))) []).getD 1 0))) : Nat) : Int), (((fneg .f32 (Int.toNat ((x10.getD (Int.toNat (IntKind.i64.wrap (((x10.length : Nat) : Int) - 1))) []).getD 0 0))) : Nat) : Int)]) x11 x12)))))))) (fun h7 => rfl))) (fun h6 => (cond_both (a62l0 x0 x1 x2 x3 x4 x5 x6 x7 x8 x9 x10 x11 x12) _ (fun h7 => (cond_both (a62l0 x0 x1 x2 x3 x4 x5 x6 x7 x8 x9 x10 x11 x12) _ (fun h8 => (cond_t (ev_and2 h8) (cond_both (a62l0 x0 x1 x2 x3 x4 x5 x6 x7 x8 x9 x10 x11 x12) _ (fun h9 => (cond_t (ev_and2 h9) (cond_both (a62l0 x0 x1 x2 x3 x4 x5 x6 x7 x8 x9 x10 x11 x12) _ (fun h10 => (cond_t (ev_and2 h10) (cond_t h8 (cond_t (ev_and2 h8) (cond_both (a62l0 x0 x1 x2 x3 x4 x5 x6 x7 x8 x9 x10 x11 x12) _ (fun h11 => (cond_t (ev_and2 (ev_and2 h11)) (cond_app (a62l0 x0 x1 x2 x3 x4 x5 x6 x7 x8 x9 x10 x11 x12) _ rfl (cond_app (a62l0 x0 x1 x2 x3 x4 x5 x6 x7 x8 x9 x10 x11 x12) _ rfl (cond_app (a62l0 x0 x1 x2 x3 x4 x5 x6 x7 x8 x9 x10 x11 x12) _ rfl rfl))))) (fun h11 => rfl)))))) (fun h10 => rfl)))) (fun h9 => rfl)))) (fun h8 => rfl))) (fun h7 => (cond_t (ev_and2 h1) (cond_both (a62l0 x0 x1 x2 x3 x4 x5 x6 x7 x8 x9 x10 x11 x12) _ (fun h8 => (cond_t (ev_and2 h8) (cond_both (a62l0 x0 x1 x2 x3 x4 x5 x6 x7 x8 x9 x10 x11 x12) _ (fun h9 => (cond_t (ev_and2 h9) (cond_both (a62l0 x0 x1 x2 x3 x4 x5 x6 x7 x8 x9 x10 x11 x12) _ (fun h10 => (cond_t h8 (cond_t (ev_and2 h8) (cond_both (a62l0 x0 x1 x2 x3 x4 x5 x6 x7 x8 x9 x10 x11 x12) _ (fun h11 => (cond_t (ev_and2 (ev_and2 h11)) (cond_app (a62l0 x0 x1 x2 x3 x4 x5 x6 x7 x8 x9 x10 x11 x12) _ rfl (cond_app (a62l0 x0 x1 x2 x3 x4 x5 x6 x7 x8 x9 x10 x11 x12) _ rfl (cond_app (a62l0 x0 x1 x2 x3 x4 x5 x6 x7 x8 x9 x10 x11 x12) _ rfl rfl))))) (fun h11 => rfl))))) (fun h10 => rfl)))) (fun h9 => rfl)))) (fun h8 => rfl))))))))))))))))) (fun h1 => rfl))) (fun h0 => rfl)))
set_option maxRecDepth 100000 in
set_option maxHeartbeats 4000000 in
theorem qm62l0 : ∀ m, SumKOk Try.prog (loopN Try.f62 0) 155 [0, 3, 5, 6, 7] [5] (q62l0 m) := by
  intro m
  induction m with
  | zero =>
    intro vals s x h1 h2 h3
    unfold q62l0 at h3; split at h3
    · rename_i h; split at h3
      · rename_i hc; obtain ⟨rfl, rfl, rfl, rfl, rfl, rfl, rfl, rfl, rfl, rfl⟩ := hc; exact absurd h3 (by simp [r62l0, firstT, Nat.beq])
      · exact noQ_ok _ _ _ h1 h2 h3
    · exact noQ_ok _ _ _ h1 h2 h3
  | succ m ih =>
    intro vals s x h1 h2 h3
    unfold q62l0 at h3; split at h3
    · rename_i h; split at h3
      · rename_i hc; obtain ⟨rfl, rfl, rfl, rfl, rfl, rfl, rfl, rfl, rfl, rfl⟩ := hc; exact sum_step ok35 extOk mixed ((lfOkF_no _ _).inner (by kernel_rfl)) ih h1 h2 h (e62l0 m _ _ _ _ _ _ _ _ _ _ _ _ _) rfl h3
      · exact noQ_ok _ _ _ h1 h2 h3
    · exact noQ_ok _ _ _ h1 h2 h3
noncomputable def Q62l0 : SumK := fun vals s => q62l0 (fuelOf vals s.h) vals s
theorem qok62l0 : SumKOk Try.prog (loopN Try.f62 0) 155 [0, 3, 5, 6, 7] [5] Q62l0 := fuel_ok qm62l0 fuelOf
noncomputable def L62_1 : LoopT := addL noL 5 ([0, 3, 5, 6, 7], [6]) (sumK 155 [0, 3, 5, 6, 7] [5] Q62l0)
theorem lok62_1 : LfOkF Try.prog L62_1 Try.f62 := lfOkF_add (lfOkF_no _ _) qok62l0 (by kernel_rfl) (by kernel_rfl) (by kernel_rfl)

/-- spec.l05Prove -/
noncomputable def r62 (x0 x1 x2 x3 x4 x5 x6 x7 : Nat) (x8 : List ByteArray) (x9 : List (List Int)) : Nat × List (List Int) :=
 let c33 := (r62l0 (1000 + x9.length + x8.length + 0 + 0) 0 x0 x1 x2 x3 x4 x5 x6 x7 ([] : List (List Int)) ([] : List (List Int)) x8 x9)
 cond (Nat.beq (c33.1) 0)
  (0, ([] : List (List Int)))
  (cond (Nat.beq (c33.1) 1)
   (0, (c33.2.1))
   (cond (Nat.beq (c33.1) 2)
    (0, ([] : List (List Int)))
    (1, [])))
noncomputable def a62 (x0 x1 x2 x3 x4 x5 x6 x7 : Nat) (x8 : List ByteArray) (x9 : List (List Int)) (p : Nat × List (List Int)) : Res := firstT [((Nat.beq (p.1) 0), wsl 3, ⟨[⟨true, (some (.cells [wsl 1, wsl 2]))⟩, ⟨true, (some (.strs x8))⟩, ⟨true, (some (.tab [.int .i8, .int .i16, .fl .f32] x9))⟩, ⟨true, (some (.tab [.fl .f32, .fl .f32] (p.2)))⟩], 3, []⟩)]
noncomputable def w62 (x0 x1 x2 x3 x4 x5 x6 x7 : Nat) (x8 : List ByteArray) (x9 : List (List Int)) : Res :=
 let c33 := (r62l0 (1000 + x9.length + x8.length + 0 + 0) 0 x0 x1 x2 x3 x4 x5 x6 x7 ([] : List (List Int)) ([] : List (List Int)) x8 x9)
 (cond (Nat.beq (c33.1) 0)
 (a62 x0 x1 x2 x3 x4 x5 x6 x7 x8 x9 (0, ([] : List (List Int))))
 (cond (Nat.beq (c33.1) 1)
  (a62 x0 x1 x2 x3 x4 x5 x6 x7 x8 x9 (0, (c33.2.1)))
  (cond (Nat.beq (c33.1) 2)
   (a62 x0 x1 x2 x3 x4 x5 x6 x7 x8 x9 (0, ([] : List (List Int))))
   none)))
set_option maxRecDepth 100000 in
set_option maxHeartbeats 4000000 in
theorem e62 (x0 x1 x2 x3 x4 x5 x6 x7 : Nat) (x8 : List ByteArray) (x9 : List (List Int)) : evFn Try.prog ext T35 L62_1 200 Try.f62 [.pointer (some ⟨0, 0, some 0⟩), .agg #[.float .f32 x0, .float .f32 x1, .float .f32 x2, .float .f32 x3, .float .f32 x4, .float .f32 x5, .float .f32 x6, .float .f32 x7]] ⟨[⟨true, (some (.cells [wsl 1, wsl 2]))⟩, ⟨true, (some (.strs x8))⟩, ⟨true, (some (.tab [.int .i8, .int .i16, .fl .f32] x9))⟩], 3, []⟩ = firstT [((Nat.beq ((r62 x0 x1 x2 x3 x4 x5 x6 x7 x8 x9).1) 0), wsl 3, ⟨[⟨true, (some (.cells [wsl 1, wsl 2]))⟩, ⟨true, (some (.strs x8))⟩, ⟨true, (some (.tab [.int .i8, .int .i16, .fl .f32] x9))⟩, ⟨true, (some (.tab [.fl .f32, .fl .f32] ((r62 x0 x1 x2 x3 x4 x5 x6 x7 x8 x9).2)))⟩], 3, []⟩)] :=
 (show evFn Try.prog ext T35 L62_1 200 Try.f62 [.pointer (some ⟨0, 0, some 0⟩), .agg #[.float .f32 x0, .float .f32 x1, .float .f32 x2, .float .f32 x3, .float .f32 x4, .float .f32 x5, .float .f32 x6, .float .f32 x7]] ⟨[⟨true, (some (.cells [wsl 1, wsl 2]))⟩, ⟨true, (some (.strs x8))⟩, ⟨true, (some (.tab [.int .i8, .int .i16, .fl .f32] x9))⟩], 3, []⟩ = w62 x0 x1 x2 x3 x4 x5 x6 x7 x8 x9 from by kernel_rfl).trans
 (show w62 x0 x1 x2 x3 x4 x5 x6 x7 x8 x9 = a62 x0 x1 x2 x3 x4 x5 x6 x7 x8 x9 (r62 x0 x1 x2 x3 x4 x5 x6 x7 x8 x9) from by unfold w62 r62; exact (cond_app (a62 x0 x1 x2 x3 x4 x5 x6 x7 x8 x9) _ rfl (cond_app (a62 x0 x1 x2 x3 x4 x5 x6 x7 x8 x9) _ rfl (cond_app (a62 x0 x1 x2 x3 x4 x5 x6 x7 x8 x9) _ rfl rfl))))
noncomputable def s62 (args : List Value) (s : St) : List (Bool × Value × St) :=
 match args, s.h with
 | [.pointer (some ⟨f0, f1, some f2⟩), .agg ⟨[.float .f32 x0, .float .f32 x1, .float .f32 x2, .float .f32 x3, .float .f32 x4, .float .f32 x5, .float .f32 x6, .float .f32 x7]⟩], [⟨true, some (.cells [.iface f3 .nilIface, .iface f4 .nilIface])⟩, ⟨true, some (.strs x8)⟩, ⟨true, some (.tab [.int .i8, .int .i16, .fl .f32] x9)⟩] => if f0 = 0 ∧ f1 = 0 ∧ f2 = 0 ∧ f3 = 1 ∧ f4 = 2 then [((Nat.beq ((r62 x0 x1 x2 x3 x4 x5 x6 x7 x8 x9).1) 0), wsl 3, ⟨[⟨true, (some (.cells [wsl 1, wsl 2]))⟩, ⟨true, (some (.strs x8))⟩, ⟨true, (some (.tab [.int .i8, .int .i16, .fl .f32] x9))⟩, ⟨true, (some (.tab [.fl .f32, .fl .f32] ((r62 x0 x1 x2 x3 x4 x5 x6 x7 x8 x9).2)))⟩], 3, []⟩)] else T35 62 args s
 | _, _ => T35 62 args s
noncomputable def T36 : CallF := addF T35 62 s62
set_option maxRecDepth 100000 in
set_option maxHeartbeats 4000000 in
theorem ok36 : CfOk Try.prog T36 := by
  refine cfOk_add ok35 fun args s r s' h1 h2 h3 => ?_
  unfold s62 at h3; split at h3
  · rename_i h; split at h3
    · rename_i hc; obtain ⟨rfl, rfl, rfl, rfl, rfl⟩ := hc; exact callOk ok35 Try.func62 h1 h2 h lok62_1.body (e62 _ _ _ _ _ _ _ _ _ _) rfl h3
    · exact ok35 _ _ _ _ _ h1 h2 h3
  · exact ok35 _ _ _ _ _ h1 h2 h3

/-- spec.l05Within -/
noncomputable def r61 (x0 x1 x2 x3 : Nat) : Bool :=
 cond (fgt .f32 x0 x2 || feq .f32 x0 x2)
  ((flt .f32 x1 x3 || feq .f32 x1 x3))
  (false)
noncomputable def a61 (x0 x1 x2 x3 : Nat) (p : Bool) : Res := firstT [(true, .bool p, st0)]
noncomputable def w61 (x0 x1 x2 x3 : Nat) : Res :=
 (cond (fgt .f32 x0 x2 || feq .f32 x0 x2)
 (a61 x0 x1 x2 x3 ((flt .f32 x1 x3 || feq .f32 x1 x3)))
 (a61 x0 x1 x2 x3 (false)))
set_option maxRecDepth 100000 in
set_option maxHeartbeats 4000000 in
theorem e61 (x0 x1 x2 x3 : Nat) : evFn Try.prog ext T36 noL 200 Try.f61 [.agg #[.float .f32 x0, .float .f32 x1], .agg #[.float .f32 x2, .float .f32 x3]] st0 = firstT [(true, .bool (r61 x0 x1 x2 x3), st0)] :=
 (show evFn Try.prog ext T36 noL 200 Try.f61 [.agg #[.float .f32 x0, .float .f32 x1], .agg #[.float .f32 x2, .float .f32 x3]] st0 = w61 x0 x1 x2 x3 from by kernel_rfl).trans
 (show w61 x0 x1 x2 x3 = a61 x0 x1 x2 x3 (r61 x0 x1 x2 x3) from by unfold w61 r61; exact (cond_app (a61 x0 x1 x2 x3) _ rfl rfl))
noncomputable def s61 (args : List Value) (s : St) : List (Bool × Value × St) :=
 match args, s.h with
 | [.agg ⟨[.float .f32 x0, .float .f32 x1]⟩, .agg ⟨[.float .f32 x2, .float .f32 x3]⟩], [] => [(true, .bool (r61 x0 x1 x2 x3), st0)]
 | _, _ => T36 61 args s
noncomputable def T37 : CallF := addF T36 61 s61
set_option maxRecDepth 100000 in
set_option maxHeartbeats 4000000 in
theorem ok37 : CfOk Try.prog T37 := by
  refine cfOk_add ok36 fun args s r s' h1 h2 h3 => ?_
  unfold s61 at h3; split at h3
  · rename_i h; exact callOk ok36 Try.func61 h1 h2 h (lfOkF_no _ _).body (e61 _ _ _ _) rfl h3
  · exact ok36 _ _ _ _ _ h1 h2 h3

/-- spec.IsProved -/
noncomputable def r27 (x0 x1 x2 x3 x4 x5 x6 x7 : Nat) (x8 : ByteArray) (x9 x10 : Nat) (x11 : List ByteArray) (x12 : List (List Int)) : Nat × Bool × Int :=
 let c34 := (r61 (Int.toNat ((((r62 x0 x1 x2 x3 x4 x5 x6 x7 x11 x12).2).getD (Int.toNat ((r54b x8 x11).2)) []).getD 0 0)) (Int.toNat ((((r62 x0 x1 x2 x3 x4 x5 x6 x7 x11 x12).2).getD (Int.toNat ((r54b x8 x11).2)) []).getD 1 0)) x9 x10)
 cond (Nat.beq ((r60 x9 x10 x0 x1 x2 x3 x4 x5 x6 x7 x11 x12).1) 0)
  (cond ((((r60 x9 x10 x0 x1 x2 x3 x4 x5 x6 x7 x11 x12).2) : Int) != 0)
   (0, false, ((r60 x9 x10 x0 x1 x2 x3 x4 x5 x6 x7 x11 x12).2))
   (cond (Nat.beq ((r54b x8 x11).1) 0)
    (cond (decide ((((r54b x8 x11).2) : Int) < 0))
     (0, false, 6)
     (cond (Nat.beq ((r62 x0 x1 x2 x3 x4 x5 x6 x7 x11 x12).1) 0)
      (cond ((decide ((0 : Int) ≤ ((r54b x8 x11).2))) && (Nat.blt (Int.toNat ((r54b x8 x11).2)) (((r62 x0 x1 x2 x3 x4 x5 x6 x7 x11 x12).2).length)))
       (0, c34, 0)
       (1, false, 0))
      (1, false, 0)))
    (1, false, 0)))
  (1, false, 0)
noncomputable def a27 (x0 x1 x2 x3 x4 x5 x6 x7 : Nat) (x8 : ByteArray) (x9 x10 : Nat) (x11 : List ByteArray) (x12 : List (List Int)) (p : Nat × Bool × Int) : Res := firstT [((Nat.beq (p.1) 0), .tuple #[.bool (p.2.1), .int .i64 (p.2.2)], ⟨[⟨true, (some (.strs x11))⟩, ⟨true, (some (.tab [.int .i8, .int .i16, .fl .f32] x12))⟩], 2, []⟩)]
noncomputable def w27 (x0 x1 x2 x3 x4 x5 x6 x7 : Nat) (x8 : ByteArray) (x9 x10 : Nat) (x11 : List ByteArray) (x12 : List (List Int)) : Res :=
 let c34 := (r61 (Int.toNat ((((r62 x0 x1 x2 x3 x4 x5 x6 x7 x11 x12).2).getD (Int.toNat ((r54b x8 x11).2)) []).getD 0 0)) (Int.toNat ((((r62 x0 x1 x2 x3 x4 x5 x6 x7 x11 x12).2).getD (Int.toNat ((r54b x8 x11).2)) []).getD 1 0)) x9 x10)
 (cond (Nat.beq ((r60 x9 x10 x0 x1 x2 x3 x4 x5 x6 x7 x11 x12).1) 0)
 (cond ((((r60 x9 x10 x0 x1 x2 x3 x4 x5 x6 x7 x11 x12).2) : Int) != 0)
  (a27 x0 x1 x2 x3 x4 x5 x6 x7 x8 x9 x10 x11 x12 (0, false, ((r60 x9 x10 x0 x1 x2 x3 x4 x5 x6 x7 x11 x12).2)))
  (cond (Nat.beq ((r54b x8 x11).1) 0)
   (cond (decide ((((r54b x8 x11).2) : Int) < 0))
    (a27 x0 x1 x2 x3 x4 x5 x6 x7 x8 x9 x10 x11 x12 (0, false, 6))
    (cond (Nat.beq ((r62 x0 x1 x2 x3 x4 x5 x6 x7 x11 x12).1) 0)
     (cond ((decide ((0 : Int) ≤ ((r54b x8 x11).2))) && (Nat.blt (Int.toNat ((r54b x8 x11).2)) (((r62 x0 x1 x2 x3 x4 x5 x6 x7 x11 x12).2).length)))
      (cond (Nat.blt (Int.toNat ((r54b x8 x11).2)) (((r62 x0 x1 x2 x3 x4 x5 x6 x7 x11 x12).2).length))
       (a27 x0 x1 x2 x3 x4 x5 x6 x7 x8 x9 x10 x11 x12 (0, c34, 0))
       none)
      none)
     none))
   none))
 none)
set_option maxRecDepth 100000 in
set_option maxHeartbeats 4000000 in
theorem e27 (x0 x1 x2 x3 x4 x5 x6 x7 : Nat) (x8 : ByteArray) (x9 x10 : Nat) (x11 : List ByteArray) (x12 : List (List Int)) : evFn Try.prog ext T37 noL 200 Try.f27 [.agg #[wsl 0, wsl 1], .agg #[.float .f32 x0, .float .f32 x1, .float .f32 x2, .float .f32 x3, .float .f32 x4, .float .f32 x5, .float .f32 x6, .float .f32 x7], .string x8, .agg #[.float .f32 x9, .float .f32 x10]] ⟨[⟨true, (some (.strs x11))⟩, ⟨true, (some (.tab [.int .i8, .int .i16, .fl .f32] x12))⟩], 2, []⟩ = firstT [((Nat.beq ((r27 x0 x1 x2 x3 x4 x5 x6 x7 x8 x9 x10 x11 x12).1) 0), .tuple #[.bool ((r27 x0 x1 x2 x3 x4 x5 x6 x7 x8 x9 x10 x11 x12).2.1), .int .i64 ((r27 x0 x1 x2 x3 x4 x5 x6 x7 x8 x9 x10 x11 x12).2.2)], ⟨[⟨true, (some (.strs x11))⟩, ⟨true, (some (.tab [.int .i8, .int .i16, .fl .f32] x12))⟩], 2, []⟩)] :=
 (show evFn Try.prog ext T37 noL 200 Try.f27 [.agg #[wsl 0, wsl 1], .agg #[.float .f32 x0, .float .f32 x1, .float .f32 x2, .float .f32 x3, .float .f32 x4, .float .f32 x5, .float .f32 x6, .float .f32 x7], .string x8, .agg #[.float .f32 x9, .float .f32 x10]] ⟨[⟨true, (some (.strs x11))⟩, ⟨true, (some (.tab [.int .i8, .int .i16, .fl .f32] x12))⟩], 2, []⟩ = w27 x0 x1 x2 x3 x4 x5 x6 x7 x8 x9 x10 x11 x12 from by kernel_rfl).trans
 (show w27 x0 x1 x2 x3 x4 x5 x6 x7 x8 x9 x10 x11 x12 = a27 x0 x1 x2 x3 x4 x5 x6 x7 x8 x9 x10 x11 x12 (r27 x0 x1 x2 x3 x4 x5 x6 x7 x8 x9 x10 x11 x12) from by unfold w27 r27; exact (cond_both (a27 x0 x1 x2 x3 x4 x5 x6 x7 x8 x9 x10 x11 x12) _ (fun h0 => (cond_both (a27 x0 x1 x2 x3 x4 x5 x6 x7 x8 x9 x10 x11 x12) _ (fun h1 => rfl) (fun h1 => (cond_both (a27 x0 x1 x2 x3 x4 x5 x6 x7 x8 x9 x10 x11 x12) _ (fun h2 => (cond_both (a27 x0 x1 x2 x3 x4 x5 x6 x7 x8 x9 x10 x11 x12) _ (fun h3 => rfl) (fun h3 => (cond_both (a27 x0 x1 x2 x3 x4 x5 x6 x7 x8 x9 x10 x11 x12) _ (fun h4 => (cond_both (a27 x0 x1 x2 x3 x4 x5 x6 x7 x8 x9 x10 x11 x12) _ (fun h5 => (cond_t (ev_and2 h5) rfl)) (fun h5 => rfl))) (fun h4 => rfl))))) (fun h2 => rfl))))) (fun h0 => rfl)))
noncomputable def s27 (args : List Value) (s : St) : List (Bool × Value × St) :=
 match args, s.h with
 | [.agg ⟨[.iface f0 .nilIface, .iface f1 .nilIface]⟩, .agg ⟨[.float .f32 x0, .float .f32 x1, .float .f32 x2, .float .f32 x3, .float .f32 x4, .float .f32 x5, .float .f32 x6, .float .f32 x7]⟩, .string x8, .agg ⟨[.float .f32 x9, .float .f32 x10]⟩], [⟨true, some (.strs x11)⟩, ⟨true, some (.tab [.int .i8, .int .i16, .fl .f32] x12)⟩] => if f0 = 0 ∧ f1 = 1 then [((Nat.beq ((r27 x0 x1 x2 x3 x4 x5 x6 x7 x8 x9 x10 x11 x12).1) 0), .tuple #[.bool ((r27 x0 x1 x2 x3 x4 x5 x6 x7 x8 x9 x10 x11 x12).2.1), .int .i64 ((r27 x0 x1 x2 x3 x4 x5 x6 x7 x8 x9 x10 x11 x12).2.2)], ⟨[⟨true, (some (.strs x11))⟩, ⟨true, (some (.tab [.int .i8, .int .i16, .fl .f32] x12))⟩], 2, []⟩)] else T37 27 args s
 | _, _ => T37 27 args s
noncomputable def T38 : CallF := addF T37 27 s27
set_option maxRecDepth 100000 in
set_option maxHeartbeats 4000000 in
theorem ok38 : CfOk Try.prog T38 := by
  refine cfOk_add ok37 fun args s r s' h1 h2 h3 => ?_
  unfold s27 at h3; split at h3
  · rename_i h; split at h3
    · rename_i hc; obtain ⟨rfl, rfl⟩ := hc; exact callOk ok37 Try.func27 h1 h2 h (lfOkF_no _ _).body (e27 _ _ _ _ _ _ _ _ _ _ _ _ _) rfl h3
    · exact ok37 _ _ _ _ _ h1 h2 h3
  · exact ok37 _ _ _ _ _ h1 h2 h3

/-- impl.isWord -/
noncomputable def r78 (x0 : ByteArray) : Bool :=
 cond (x0.toList == (ByteArray.mk #[109, 105, 110]).toList)
  (true)
  (cond (x0.toList == (ByteArray.mk #[109, 97, 120]).toList)
   (true)
   ((x0.toList == (ByteArray.mk #[112, 105, 99, 107]).toList)))
noncomputable def a78 (x0 : ByteArray) (p : Bool) : Res := firstT [(true, .bool p, st0)]
noncomputable def w78 (x0 : ByteArray) : Res :=
 (cond (x0.toList == (ByteArray.mk #[109, 105, 110]).toList)
 (a78 x0 (true))
 (cond (x0.toList == (ByteArray.mk #[109, 97, 120]).toList)
  (a78 x0 (true))
  (a78 x0 ((x0.toList == (ByteArray.mk #[112, 105, 99, 107]).toList)))))
set_option maxRecDepth 100000 in
set_option maxHeartbeats 4000000 in
theorem e78 (x0 : ByteArray) : evFn Try.prog ext T38 noL 200 Try.f78 [.string x0] st0 = firstT [(true, .bool (r78 x0), st0)] :=
 (show evFn Try.prog ext T38 noL 200 Try.f78 [.string x0] st0 = w78 x0 from by kernel_rfl).trans
 (show w78 x0 = a78 x0 (r78 x0) from by unfold w78 r78; exact (cond_app (a78 x0) _ rfl (cond_app (a78 x0) _ rfl rfl)))
noncomputable def s78 (args : List Value) (s : St) : List (Bool × Value × St) :=
 match args, s.h with
 | [.string x0], [] => [(true, .bool (r78 x0), st0)]
 | _, _ => T38 78 args s
noncomputable def T39 : CallF := addF T38 78 s78
set_option maxRecDepth 100000 in
set_option maxHeartbeats 4000000 in
theorem ok39 : CfOk Try.prog T39 := by
  refine cfOk_add ok38 fun args s r s' h1 h2 h3 => ?_
  unfold s78 at h3; split at h3
  · rename_i h; exact callOk ok38 Try.func78 h1 h2 h (lfOkF_no _ _).body (e78 _) rfl h3
  · exact ok38 _ _ _ _ _ h1 h2 h3

/-- impl.isName, loop 0: one round -/
noncomputable def b49l0 (ih : ByteArray → Int → Int → Nat) (x0 : ByteArray) (x1 x2 : Int) : Nat :=
 cond (decide ((x2 : Int) < x1))
  (cond ((decide ((0 : Int) ≤ x2)) && (Nat.blt (Int.toNat x2) (x0.size)))
   (cond (decide ((((UInt8.toNat (List.getD (ByteArray.data x0).toList (Int.toNat x2) 0) : Nat) : Int) : Int) < 97))
    (0)
    (cond (decide ((((UInt8.toNat (List.getD (ByteArray.data x0).toList (Int.toNat x2) 0) : Nat) : Int) : Int) > 122))
     (0)
     (ih x0 x1 (IntKind.i64.wrap (x2 + 1)))))
   (2))
  (1)
noncomputable def r49l0 : Nat → ByteArray → Int → Int → Nat
 | 0 => fun _ _ _ => (2)
 | m + 1 => b49l0 (r49l0 m)
noncomputable def a49l0 (x0 : ByteArray) (x1 x2 : Int) (p : Nat) : Option (Fin' × List Value × St) := firstT ([((Nat.beq p 0), .ret, [.bool false], st0), ((Nat.beq p 1), .exit 0, [anyV], st0)].map fun (b, x) => (b, (x.1, frameOf 32 [2] x.2.1, x.2.2)))
noncomputable def u49l0 (x0 : ByteArray) (x1 x2 : Int) (p : Nat) : Option (Fin' × List Value × St) := alts ([((Nat.beq p 0), .ret, [.bool false], st0), ((Nat.beq p 1), .exit 0, [anyV], st0)].map fun (b, x) => (b, (x.1, frameOf 32 [2] x.2.1, x.2.2))) some
theorem v49l0 (x0 : ByteArray) (x1 x2 : Int) (p : Nat) : u49l0 x0 x1 x2 p = a49l0 x0 x1 x2 p := alts_first _
noncomputable def q49l0 (m : Nat) : SumK := fun vals s =>
 match vals, s.h with
 | [.string x0, .int .i64 x1, .int .i64 x2], [] => [((Nat.beq (r49l0 m x0 x1 x2) 0), .ret, [.bool false], st0), ((Nat.beq (r49l0 m x0 x1 x2) 1), .exit 0, [anyV], st0)]
 | _, _ => noQ vals s
noncomputable def w49l0 (ih : ByteArray → Int → Int → Nat) (x0 : ByteArray) (x1 x2 : Int) : Option (Fin' × List Value × St) :=
 (cond (decide ((x2 : Int) < x1))
 (cond ((decide ((0 : Int) ≤ x2)) && (Nat.blt (Int.toNat x2) (x0.size)))
  (cond (decide ((((UInt8.toNat (List.getD (ByteArray.data x0).toList (Int.toNat x2) 0) : Nat) : Int) : Int) < 97))
   (a49l0 x0 x1 x2 (0))
   (cond ((decide ((0 : Int) ≤ x2)) && (Nat.blt (Int.toNat x2) (x0.size)))
    (cond (decide ((((UInt8.toNat (List.getD (ByteArray.data x0).toList (Int.toNat x2) 0) : Nat) : Int) : Int) > 122))
     (a49l0 x0 x1 x2 (0))
     (u49l0 x0 x1 x2 (ih x0 x1 (IntKind.i64.wrap (x2 + 1)))))
    none))
  none)
 (a49l0 x0 x1 x2 (1)))
set_option maxRecDepth 100000 in
set_option maxHeartbeats 4000000 in
theorem e49l0 (m : Nat) (x0 : ByteArray) (x1 x2 : Int) : evC Try.prog ext T39 noL 200 (loopN Try.f49 0) (loopTail ([0, 17, 18], []) [2] [] (sumK 32 [0, 17, 18] [2] (q49l0 m))) (frameOf 32 [0, 17, 18] [.string x0, .int .i64 x1, .int .i64 x2]) ⟨[], 0, []⟩ = firstT ([((Nat.beq (r49l0 (m + 1) x0 x1 x2) 0), .ret, [.bool false], st0), ((Nat.beq (r49l0 (m + 1) x0 x1 x2) 1), .exit 0, [anyV], st0)].map fun (b, x) => (b, (x.1, frameOf 32 [2] x.2.1, x.2.2))) :=
 (show evC Try.prog ext T39 noL 200 (loopN Try.f49 0) (loopTail ([0, 17, 18], []) [2] [] (sumK 32 [0, 17, 18] [2] (q49l0 m))) (frameOf 32 [0, 17, 18] [.string x0, .int .i64 x1, .int .i64 x2]) ⟨[], 0, []⟩ = w49l0 (r49l0 m) x0 x1 x2 from by kernel_rfl).trans
 (show w49l0 (r49l0 m) x0 x1 x2 = a49l0 x0 x1 x2 (r49l0 (m + 1) x0 x1 x2) from by unfold w49l0; show _ = a49l0 x0 x1 x2 (b49l0 (r49l0 m) x0 x1 x2); unfold b49l0; exact (cond_both (a49l0 x0 x1 x2) _ (fun h0 => (cond_both (a49l0 x0 x1 x2) _ (fun h1 => (cond_both (a49l0 x0 x1 x2) _ (fun h2 => rfl) (fun h2 => (cond_t h1 (cond_app (a49l0 x0 x1 x2) _ rfl (v49l0 x0 x1 x2 ((r49l0 m) x0 x1 (IntKind.i64.wrap (x2 + 1))))))))) (fun h1 => rfl))) (fun h0 => rfl)))
set_option maxRecDepth 100000 in
set_option maxHeartbeats 4000000 in
theorem qm49l0 : ∀ m, SumKOk Try.prog (loopN Try.f49 0) 32 [0, 17, 18] [2] (q49l0 m) := by
  intro m
  induction m with
  | zero =>
    intro vals s x h1 h2 h3
    unfold q49l0 at h3; split at h3
    · rename_i h; exact absurd h3 (by simp [r49l0, firstT, Nat.beq])
    · exact noQ_ok _ _ _ h1 h2 h3
  | succ m ih =>
    intro vals s x h1 h2 h3
    unfold q49l0 at h3; split at h3
    · rename_i h; exact sum_step ok39 extOk mixed ((lfOkF_no _ _).inner (by kernel_rfl)) ih h1 h2 h (e49l0 m _ _ _) rfl h3
    · exact noQ_ok _ _ _ h1 h2 h3
noncomputable def Q49l0 : SumK := fun vals s => q49l0 (fuelOf vals s.h) vals s
theorem qok49l0 : SumKOk Try.prog (loopN Try.f49 0) 32 [0, 17, 18] [2] Q49l0 := fuel_ok qm49l0 fuelOf
noncomputable def L49_1 : LoopT := addL noL 5 ([0, 17, 18], []) (sumK 32 [0, 17, 18] [2] Q49l0)
theorem lok49_1 : LfOkF Try.prog L49_1 Try.f49 := lfOkF_add (lfOkF_no _ _) qok49l0 (by kernel_rfl) (by kernel_rfl) (by kernel_rfl)

/-- impl.isName -/
noncomputable def r49 (x0 : ByteArray) : Nat × Bool :=
 cond (decide (((((x0.size) : Nat) : Int) : Int) < 1))
  (0, false)
  (cond (decide (((((x0.size) : Nat) : Int) : Int) > 8))
   (0, false)
   (cond (r78 x0)
    (0, false)
    (cond (Nat.beq (r49l0 (1000 + (x0.size)) x0 (((x0.size) : Nat) : Int) 0) 0)
     (0, false)
     (cond (Nat.beq (r49l0 (1000 + (x0.size)) x0 (((x0.size) : Nat) : Int) 0) 1)
      (0, true)
      (1, false)))))
noncomputable def a49 (x0 : ByteArray) (p : Nat × Bool) : Res := firstT [((Nat.beq (p.1) 0), .bool (p.2), st0)]
noncomputable def w49 (x0 : ByteArray) : Res :=
 (cond (decide (((((x0.size) : Nat) : Int) : Int) < 1))
 (a49 x0 (0, false))
 (cond (decide (((((x0.size) : Nat) : Int) : Int) > 8))
  (a49 x0 (0, false))
  (cond (r78 x0)
   (a49 x0 (0, false))
   (cond (Nat.beq (r49l0 (1000 + (x0.size)) x0 (((x0.size) : Nat) : Int) 0) 0)
    (a49 x0 (0, false))
    (cond (Nat.beq (r49l0 (1000 + (x0.size)) x0 (((x0.size) : Nat) : Int) 0) 1)
     (a49 x0 (0, true))
     none)))))
set_option maxRecDepth 100000 in
set_option maxHeartbeats 4000000 in
theorem e49 (x0 : ByteArray) : evFn Try.prog ext T39 L49_1 200 Try.f49 [.string x0] st0 = firstT [((Nat.beq ((r49 x0).1) 0), .bool ((r49 x0).2), st0)] :=
 (show evFn Try.prog ext T39 L49_1 200 Try.f49 [.string x0] st0 = w49 x0 from by kernel_rfl).trans
 (show w49 x0 = a49 x0 (r49 x0) from by unfold w49 r49; exact (cond_app (a49 x0) _ rfl (cond_app (a49 x0) _ rfl (cond_app (a49 x0) _ rfl (cond_app (a49 x0) _ rfl (cond_app (a49 x0) _ rfl rfl))))))
noncomputable def s49 (args : List Value) (s : St) : List (Bool × Value × St) :=
 match args, s.h with
 | [.string x0], [] => [((Nat.beq ((r49 x0).1) 0), .bool ((r49 x0).2), st0)]
 | _, _ => T39 49 args s
noncomputable def T40 : CallF := addF T39 49 s49
set_option maxRecDepth 100000 in
set_option maxHeartbeats 4000000 in
theorem ok40 : CfOk Try.prog T40 := by
  refine cfOk_add ok39 fun args s r s' h1 h2 h3 => ?_
  unfold s49 at h3; split at h3
  · rename_i h; exact callOk ok39 Try.func49 h1 h2 h lok49_1.body (e49 _) rfl h3
  · exact ok39 _ _ _ _ _ h1 h2 h3

/-- slices.Index[[]string,string], loop 0: one round -/
noncomputable def b56l0 (ih : Nat → Nat → ByteArray → Int → Int → List ByteArray → (Nat × Int)) (x0 x1 : Nat) (x2 : ByteArray) (x3 x4 : Int) (x5 : List ByteArray) : Nat × Int :=
 cond (decide ((x4 : Int) < x3))
  (cond ((decide ((0 : Int) ≤ x4)) && (Nat.blt (Int.toNat x4) x0))
   (cond (Nat.blt (0 + (Int.toNat x4)) x5.length)
    (cond (x2.toList == (x5.getD (0 + (Int.toNat x4)) .empty).toList)
     (0, x4)
     (ih x0 x1 x2 x3 (IntKind.i64.wrap (x4 + 1)) x5))
    (2, 0))
   (2, 0))
  (1, 0)
noncomputable def r56l0 : Nat → Nat → Nat → ByteArray → Int → Int → List ByteArray → (Nat × Int)
 | 0 => fun _ _ _ _ _ _ => (2, 0)
 | m + 1 => b56l0 (r56l0 m)
noncomputable def a56l0 (x0 x1 : Nat) (x2 : ByteArray) (x3 x4 : Int) (x5 : List ByteArray) (p : Nat × Int) : Option (Fin' × List Value × St) := firstT ([((Nat.beq (p.1) 0), .ret, [.int .i64 (p.2)], ⟨[⟨true, (some (.strs x5))⟩], 1, []⟩), ((Nat.beq (p.1) 1), .exit 0, [anyV], ⟨[⟨true, (some (.strs x5))⟩], 1, []⟩)].map fun (b, x) => (b, (x.1, frameOf 19 [4] x.2.1, x.2.2)))
noncomputable def u56l0 (x0 x1 : Nat) (x2 : ByteArray) (x3 x4 : Int) (x5 : List ByteArray) (p : Nat × Int) : Option (Fin' × List Value × St) := alts ([((Nat.beq (p.1) 0), .ret, [.int .i64 (p.2)], ⟨[⟨true, (some (.strs x5))⟩], 1, []⟩), ((Nat.beq (p.1) 1), .exit 0, [anyV], ⟨[⟨true, (some (.strs x5))⟩], 1, []⟩)].map fun (b, x) => (b, (x.1, frameOf 19 [4] x.2.1, x.2.2))) some
theorem v56l0 (x0 x1 : Nat) (x2 : ByteArray) (x3 x4 : Int) (x5 : List ByteArray) (p : Nat × Int) : u56l0 x0 x1 x2 x3 x4 x5 p = a56l0 x0 x1 x2 x3 x4 x5 p := alts_first _
noncomputable def q56l0 (m : Nat) : SumK := fun vals s =>
 match vals, s.h with
 | [.slice (some ⟨f0, f1, some f2⟩) x0 x1, .string x2, .int .i64 x3, .int .i64 x4], [⟨true, some (.strs x5)⟩] => if f0 = 0 ∧ f1 = 0 ∧ f2 = 0 then [((Nat.beq ((r56l0 m x0 x1 x2 x3 x4 x5).1) 0), .ret, [.int .i64 ((r56l0 m x0 x1 x2 x3 x4 x5).2)], ⟨[⟨true, (some (.strs x5))⟩], 1, []⟩), ((Nat.beq ((r56l0 m x0 x1 x2 x3 x4 x5).1) 1), .exit 0, [anyV], ⟨[⟨true, (some (.strs x5))⟩], 1, []⟩)] else noQ vals s
 | _, _ => noQ vals s
noncomputable def w56l0 (ih : Nat → Nat → ByteArray → Int → Int → List ByteArray → (Nat × Int)) (x0 x1 : Nat) (x2 : ByteArray) (x3 x4 : Int) (x5 : List ByteArray) : Option (Fin' × List Value × St) :=
 (cond (decide ((x4 : Int) < x3))
 (cond ((decide ((0 : Int) ≤ x4)) && (Nat.blt (Int.toNat x4) x0))
  (cond (Nat.blt (0 + (Int.toNat x4)) x5.length)
   (cond (x2.toList == (x5.getD (0 + (Int.toNat x4)) .empty).toList)
    (a56l0 x0 x1 x2 x3 x4 x5 (0, x4))
    (u56l0 x0 x1 x2 x3 x4 x5 (ih x0 x1 x2 x3 (IntKind.i64.wrap (x4 + 1)) x5)))
   none)
  none)
 (a56l0 x0 x1 x2 x3 x4 x5 (1, 0)))
set_option maxRecDepth 100000 in
set_option maxHeartbeats 4000000 in
theorem e56l0 (m : Nat) (x0 x1 : Nat) (x2 : ByteArray) (x3 x4 : Int) (x5 : List ByteArray) : evC Try.prog ext T40 noL 200 (loopN Try.f56 0) (loopTail ([0, 1, 7, 8], []) [4] [] (sumK 19 [0, 1, 7, 8] [4] (q56l0 m))) (frameOf 19 [0, 1, 7, 8] [.slice (some ⟨0, 0, some 0⟩) x0 x1, .string x2, .int .i64 x3, .int .i64 x4]) ⟨[⟨true, (some (.strs x5))⟩], 1, []⟩ = firstT ([((Nat.beq ((r56l0 (m + 1) x0 x1 x2 x3 x4 x5).1) 0), .ret, [.int .i64 ((r56l0 (m + 1) x0 x1 x2 x3 x4 x5).2)], ⟨[⟨true, (some (.strs x5))⟩], 1, []⟩), ((Nat.beq ((r56l0 (m + 1) x0 x1 x2 x3 x4 x5).1) 1), .exit 0, [anyV], ⟨[⟨true, (some (.strs x5))⟩], 1, []⟩)].map fun (b, x) => (b, (x.1, frameOf 19 [4] x.2.1, x.2.2))) :=
 (show evC Try.prog ext T40 noL 200 (loopN Try.f56 0) (loopTail ([0, 1, 7, 8], []) [4] [] (sumK 19 [0, 1, 7, 8] [4] (q56l0 m))) (frameOf 19 [0, 1, 7, 8] [.slice (some ⟨0, 0, some 0⟩) x0 x1, .string x2, .int .i64 x3, .int .i64 x4]) ⟨[⟨true, (some (.strs x5))⟩], 1, []⟩ = w56l0 (r56l0 m) x0 x1 x2 x3 x4 x5 from by kernel_rfl).trans
 (show w56l0 (r56l0 m) x0 x1 x2 x3 x4 x5 = a56l0 x0 x1 x2 x3 x4 x5 (r56l0 (m + 1) x0 x1 x2 x3 x4 x5) from by unfold w56l0; show _ = a56l0 x0 x1 x2 x3 x4 x5 (b56l0 (r56l0 m) x0 x1 x2 x3 x4 x5); unfold b56l0; exact (cond_app (a56l0 x0 x1 x2 x3 x4 x5) _ (cond_app (a56l0 x0 x1 x2 x3 x4 x5) _ (cond_app (a56l0 x0 x1 x2 x3 x4 x5) _ (cond_app (a56l0 x0 x1 x2 x3 x4 x5) _ rfl (v56l0 x0 x1 x2 x3 x4 x5 ((r56l0 m) x0 x1 x2 x3 (IntKind.i64.wrap (x4 + 1)) x5))) rfl) rfl) rfl))
set_option maxRecDepth 100000 in
set_option maxHeartbeats 4000000 in
theorem qm56l0 : ∀ m, SumKOk Try.prog (loopN Try.f56 0) 19 [0, 1, 7, 8] [4] (q56l0 m) := by
  intro m
  induction m with
  | zero =>
    intro vals s x h1 h2 h3
    unfold q56l0 at h3; split at h3
    · rename_i h; split at h3
      · rename_i hc; obtain ⟨rfl, rfl, rfl⟩ := hc; exact absurd h3 (by simp [r56l0, firstT, Nat.beq])
      · exact noQ_ok _ _ _ h1 h2 h3
    · exact noQ_ok _ _ _ h1 h2 h3
  | succ m ih =>
    intro vals s x h1 h2 h3
    unfold q56l0 at h3; split at h3
    · rename_i h; split at h3
      · rename_i hc; obtain ⟨rfl, rfl, rfl⟩ := hc; exact sum_step ok40 extOk mixed ((lfOkF_no _ _).inner (by kernel_rfl)) ih h1 h2 h (e56l0 m _ _ _ _ _ _) rfl h3
      · exact noQ_ok _ _ _ h1 h2 h3
    · exact noQ_ok _ _ _ h1 h2 h3
noncomputable def Q56l0 : SumK := fun vals s => q56l0 (fuelOf vals s.h) vals s
theorem qok56l0 : SumKOk Try.prog (loopN Try.f56 0) 19 [0, 1, 7, 8] [4] Q56l0 := fuel_ok qm56l0 fuelOf
noncomputable def L56_1 : LoopT := addL noL 3 ([0, 1, 7, 8], []) (sumK 19 [0, 1, 7, 8] [4] Q56l0)
theorem lok56_1 : LfOkF Try.prog L56_1 Try.f56 := lfOkF_add (lfOkF_no _ _) qok56l0 (by kernel_rfl) (by kernel_rfl) (by kernel_rfl)

/-- slices.Index[[]string,string] -/
noncomputable def r56 (x0 x1 : Nat) (x2 : ByteArray) (x3 : List ByteArray) : Nat × Int :=
 cond (Nat.beq ((r56l0 (1000 + x3.length + (x2.size)) x0 x1 x2 ((x0 : Nat) : Int) 0 x3).1) 0)
  (0, ((r56l0 (1000 + x3.length + (x2.size)) x0 x1 x2 ((x0 : Nat) : Int) 0 x3).2))
  (cond (Nat.beq ((r56l0 (1000 + x3.length + (x2.size)) x0 x1 x2 ((x0 : Nat) : Int) 0 x3).1) 1)
   (0, (-1))
   (1, 0))
noncomputable def a56 (x0 x1 : Nat) (x2 : ByteArray) (x3 : List ByteArray) (p : Nat × Int) : Res := firstT [((Nat.beq (p.1) 0), .int .i64 (p.2), ⟨[⟨true, (some (.strs x3))⟩], 1, []⟩)]
noncomputable def w56 (x0 x1 : Nat) (x2 : ByteArray) (x3 : List ByteArray) : Res :=
 (cond (Nat.beq ((r56l0 (1000 + x3.length + (x2.size)) x0 x1 x2 ((x0 : Nat) : Int) 0 x3).1) 0)
 (a56 x0 x1 x2 x3 (0, ((r56l0 (1000 + x3.length + (x2.size)) x0 x1 x2 ((x0 : Nat) : Int) 0 x3).2)))
 (cond (Nat.beq ((r56l0 (1000 + x3.length + (x2.size)) x0 x1 x2 ((x0 : Nat) : Int) 0 x3).1) 1)
  (a56 x0 x1 x2 x3 (0, (-1)))
  none))
set_option maxRecDepth 100000 in
set_option maxHeartbeats 4000000 in
theorem e56 (x0 x1 : Nat) (x2 : ByteArray) (x3 : List ByteArray) : evFn Try.prog ext T40 L56_1 200 Try.f56 [.slice (some ⟨0, 0, some 0⟩) x0 x1, .string x2] ⟨[⟨true, (some (.strs x3))⟩], 1, []⟩ = firstT [((Nat.beq ((r56 x0 x1 x2 x3).1) 0), .int .i64 ((r56 x0 x1 x2 x3).2), ⟨[⟨true, (some (.strs x3))⟩], 1, []⟩)] :=
 (show evFn Try.prog ext T40 L56_1 200 Try.f56 [.slice (some ⟨0, 0, some 0⟩) x0 x1, .string x2] ⟨[⟨true, (some (.strs x3))⟩], 1, []⟩ = w56 x0 x1 x2 x3 from by kernel_rfl).trans
 (show w56 x0 x1 x2 x3 = a56 x0 x1 x2 x3 (r56 x0 x1 x2 x3) from by unfold w56 r56; exact (cond_app (a56 x0 x1 x2 x3) _ rfl (cond_app (a56 x0 x1 x2 x3) _ rfl rfl)))
noncomputable def s56 (args : List Value) (s : St) : List (Bool × Value × St) :=
 match args, s.h with
 | [.slice (some ⟨f0, f1, some f2⟩) x0 x1, .string x2], [⟨true, some (.strs x3)⟩] => if f0 = 0 ∧ f1 = 0 ∧ f2 = 0 then [((Nat.beq ((r56 x0 x1 x2 x3).1) 0), .int .i64 ((r56 x0 x1 x2 x3).2), ⟨[⟨true, (some (.strs x3))⟩], 1, []⟩)] else T40 56 args s
 | _, _ => T40 56 args s
noncomputable def T41 : CallF := addF T40 56 s56
set_option maxRecDepth 100000 in
set_option maxHeartbeats 4000000 in
theorem ok41 : CfOk Try.prog T41 := by
  refine cfOk_add ok40 fun args s r s' h1 h2 h3 => ?_
  unfold s56 at h3; split at h3
  · rename_i h; split at h3
    · rename_i hc; obtain ⟨rfl, rfl, rfl⟩ := hc; exact callOk ok40 Try.func56 h1 h2 h lok56_1.body (e56 _ _ _ _) rfl h3
    · exact ok40 _ _ _ _ _ h1 h2 h3
  · exact ok40 _ _ _ _ _ h1 h2 h3

/-- slices.Contains[[]string,string] -/
noncomputable def r50 (x0 x1 : Nat) (x2 : ByteArray) (x3 : List ByteArray) : Nat × Bool :=
 cond (Nat.beq ((r56 x0 x1 x2 x3).1) 0)
  (0, (decide ((((r56 x0 x1 x2 x3).2) : Int) ≥ 0)))
  (1, false)
noncomputable def a50 (x0 x1 : Nat) (x2 : ByteArray) (x3 : List ByteArray) (p : Nat × Bool) : Res := firstT [((Nat.beq (p.1) 0), .bool (p.2), ⟨[⟨true, (some (.strs x3))⟩], 1, []⟩)]
noncomputable def w50 (x0 x1 : Nat) (x2 : ByteArray) (x3 : List ByteArray) : Res :=
 (cond (Nat.beq ((r56 x0 x1 x2 x3).1) 0)
 (a50 x0 x1 x2 x3 (0, (decide ((((r56 x0 x1 x2 x3).2) : Int) ≥ 0))))
 none)
set_option maxRecDepth 100000 in
set_option maxHeartbeats 4000000 in
theorem e50 (x0 x1 : Nat) (x2 : ByteArray) (x3 : List ByteArray) : evFn Try.prog ext T41 noL 200 Try.f50 [.slice (some ⟨0, 0, some 0⟩) x0 x1, .string x2] ⟨[⟨true, (some (.strs x3))⟩], 1, []⟩ = firstT [((Nat.beq ((r50 x0 x1 x2 x3).1) 0), .bool ((r50 x0 x1 x2 x3).2), ⟨[⟨true, (some (.strs x3))⟩], 1, []⟩)] :=
 (show evFn Try.prog ext T41 noL 200 Try.f50 [.slice (some ⟨0, 0, some 0⟩) x0 x1, .string x2] ⟨[⟨true, (some (.strs x3))⟩], 1, []⟩ = w50 x0 x1 x2 x3 from by kernel_rfl).trans
 (show w50 x0 x1 x2 x3 = a50 x0 x1 x2 x3 (r50 x0 x1 x2 x3) from by unfold w50 r50; exact (cond_app (a50 x0 x1 x2 x3) _ rfl rfl))
noncomputable def s50 (args : List Value) (s : St) : List (Bool × Value × St) :=
 match args, s.h with
 | [.slice (some ⟨f0, f1, some f2⟩) x0 x1, .string x2], [⟨true, some (.strs x3)⟩] => if f0 = 0 ∧ f1 = 0 ∧ f2 = 0 then [((Nat.beq ((r50 x0 x1 x2 x3).1) 0), .bool ((r50 x0 x1 x2 x3).2), ⟨[⟨true, (some (.strs x3))⟩], 1, []⟩)] else T41 50 args s
 | _, _ => T41 50 args s
noncomputable def T42 : CallF := addF T41 50 s50
set_option maxRecDepth 100000 in
set_option maxHeartbeats 4000000 in
theorem ok42 : CfOk Try.prog T42 := by
  refine cfOk_add ok41 fun args s r s' h1 h2 h3 => ?_
  unfold s50 at h3; split at h3
  · rename_i h; split at h3
    · rename_i hc; obtain ⟨rfl, rfl, rfl⟩ := hc; exact callOk ok41 Try.func50 h1 h2 h (lfOkF_no _ _).body (e50 _ _ _ _) rfl h3
    · exact ok41 _ _ _ _ _ h1 h2 h3
  · exact ok41 _ _ _ _ _ h1 h2 h3

/-- impl.ValidProgram, loop 0: one round -/
noncomputable def b16l0 (ih : Int → Int → List ByteArray → List (List Int) → Nat) (x0 x1 : Int) (x2 : List ByteArray) (x3 : List (List Int)) : Nat :=
 cond (decide ((x1 : Int) < x0))
  (cond ((decide ((0 : Int) ≤ x1)) && (Nat.blt (Int.toNat x1) x2.length))
   (cond (Nat.beq ((r49 (x2.getD (Int.toNat x1) .empty)).1) 0)
    (cond (!((r49 (x2.getD (Int.toNat x1) .empty)).2))
     (0)
     (cond ((Nat.blt 0 x2.length) && (((decide ((0 : Int) ≤ x1)) && (Nat.ble 0 (Int.toNat x1))) && (Nat.ble (Int.toNat x1) x2.length)))
      (cond (Nat.beq ((r50 (Int.toNat x1) x2.length (x2.getD (Int.toNat x1) .empty) x2).1) 0)
       (cond ((r50 (Int.toNat x1) x2.length (x2.getD (Int.toNat x1) .empty) x2).2)
        (0)
        (ih x0 (IntKind.i64.wrap (x1 + 1)) x2 x3))
       (2))
      (2)))
    (2))
   (2))
  (1)
noncomputable def r16l0 : Nat → Int → Int → List ByteArray → List (List Int) → Nat
 | 0 => fun _ _ _ _ => (2)
 | m + 1 => b16l0 (r16l0 m)
noncomputable def a16l0 (x0 x1 : Int) (x2 : List ByteArray) (x3 : List (List Int)) (p : Nat) : Option (Fin' × List Value × St) := firstT ([((Nat.beq p 0), .ret, [.pointer (some ⟨0, 0, some 0⟩), .bool false], ⟨[⟨true, (some (.cells [wsl 1, wsl 2]))⟩, ⟨true, (some (.strs x2))⟩, ⟨true, (some (.tab [.int .i8, .int .i16, .fl .f32] x3))⟩], 3, []⟩), ((Nat.beq p 1), .exit 0, [.pointer (some ⟨0, 0, some 0⟩), anyV], ⟨[⟨true, (some (.cells [wsl 1, wsl 2]))⟩, ⟨true, (some (.strs x2))⟩, ⟨true, (some (.tab [.int .i8, .int .i16, .fl .f32] x3))⟩], 3, []⟩)].map fun (b, x) => (b, (x.1, frameOf 161 [1, 2] x.2.1, x.2.2)))
noncomputable def u16l0 (x0 x1 : Int) (x2 : List ByteArray) (x3 : List (List Int)) (p : Nat) : Option (Fin' × List Value × St) := alts ([((Nat.beq p 0), .ret, [.pointer (some ⟨0, 0, some 0⟩), .bool false], ⟨[⟨true, (some (.cells [wsl 1, wsl 2]))⟩, ⟨true, (some (.strs x2))⟩, ⟨true, (some (.tab [.int .i8, .int .i16, .fl .f32] x3))⟩], 3, []⟩), ((Nat.beq p 1), .exit 0, [.pointer (some ⟨0, 0, some 0⟩), anyV], ⟨[⟨true, (some (.cells [wsl 1, wsl 2]))⟩, ⟨true, (some (.strs x2))⟩, ⟨true, (some (.tab [.int .i8, .int .i16, .fl .f32] x3))⟩], 3, []⟩)].map fun (b, x) => (b, (x.1, frameOf 161 [1, 2] x.2.1, x.2.2))) some
theorem v16l0 (x0 x1 : Int) (x2 : List ByteArray) (x3 : List (List Int)) (p : Nat) : u16l0 x0 x1 x2 x3 p = a16l0 x0 x1 x2 x3 p := alts_first _
noncomputable def q16l0 (m : Nat) : SumK := fun vals s =>
 match vals, s.h with
 | [.pointer (some ⟨f0, f1, some f2⟩), .iface f3 .nilIface, .int .i64 x0, .int .i64 x1], [⟨true, some (.cells [.iface f4 .nilIface, .iface f5 .nilIface])⟩, ⟨true, some (.strs x2)⟩, ⟨true, some (.tab [.int .i8, .int .i16, .fl .f32] x3)⟩] => if f0 = 0 ∧ f1 = 0 ∧ f2 = 0 ∧ f3 = 1 ∧ f4 = 1 ∧ f5 = 2 then [((Nat.beq (r16l0 m x0 x1 x2 x3) 0), .ret, [.pointer (some ⟨0, 0, some 0⟩), .bool false], ⟨[⟨true, (some (.cells [wsl 1, wsl 2]))⟩, ⟨true, (some (.strs x2))⟩, ⟨true, (some (.tab [.int .i8, .int .i16, .fl .f32] x3))⟩], 3, []⟩), ((Nat.beq (r16l0 m x0 x1 x2 x3) 1), .exit 0, [.pointer (some ⟨0, 0, some 0⟩), anyV], ⟨[⟨true, (some (.cells [wsl 1, wsl 2]))⟩, ⟨true, (some (.strs x2))⟩, ⟨true, (some (.tab [.int .i8, .int .i16, .fl .f32] x3))⟩], 3, []⟩)] else noQ vals s
 | _, _ => noQ vals s
noncomputable def w16l0 (ih : Int → Int → List ByteArray → List (List Int) → Nat) (x0 x1 : Int) (x2 : List ByteArray) (x3 : List (List Int)) : Option (Fin' × List Value × St) :=
 (cond (decide ((x1 : Int) < x0))
 (cond ((decide ((0 : Int) ≤ x1)) && (Nat.blt (Int.toNat x1) x2.length))
  (cond (Nat.blt (Int.toNat x1) x2.length)
   (cond (Nat.beq ((r49 (x2.getD (Int.toNat x1) .empty)).1) 0)
    (cond (!((r49 (x2.getD (Int.toNat x1) .empty)).2))
     (a16l0 x0 x1 x2 x3 (0))
     (cond ((Nat.blt 0 x2.length) && (((decide ((0 : Int) ≤ x1)) && (Nat.ble 0 (Int.toNat x1))) && (Nat.ble (Int.toNat x1) x2.length)))
      (cond (Nat.beq ((r50 (Int.toNat x1) x2.length (x2.getD (Int.toNat x1) .empty) x2).1) 0)
       (cond ((r50 (Int.toNat x1) x2.length (x2.getD (Int.toNat x1) .empty) x2).2)
        (a16l0 x0 x1 x2 x3 (0))
        (u16l0 x0 x1 x2 x3 (ih x0 (IntKind.i64.wrap (x1 + 1)) x2 x3)))
       none)
      none))
    none)
   none)
  none)
 (a16l0 x0 x1 x2 x3 (1)))
set_option maxRecDepth 100000 in
set_option maxHeartbeats 4000000 in
theorem e16l0 (m : Nat) (x0 x1 : Int) (x2 : List ByteArray) (x3 : List (List Int)) : evC Try.prog ext T42 noL 200 (loopN Try.f16 0) (loopTail ([1, 23, 24, 25], []) [1, 2] [] (sumK 161 [1, 23, 24, 25] [1, 2] (q16l0 m))) (frameOf 161 [1, 23, 24, 25] [.pointer (some ⟨0, 0, some 0⟩), wsl 1, .int .i64 x0, .int .i64 x1]) ⟨[⟨true, (some (.cells [wsl 1, wsl 2]))⟩, ⟨true, (some (.strs x2))⟩, ⟨true, (some (.tab [.int .i8, .int .i16, .fl .f32] x3))⟩], 3, []⟩ = firstT ([((Nat.beq (r16l0 (m + 1) x0 x1 x2 x3) 0), .ret, [.pointer (some ⟨0, 0, some 0⟩), .bool false], ⟨[⟨true, (some (.cells [wsl 1, wsl 2]))⟩, ⟨true, (some (.strs x2))⟩, ⟨true, (some (.tab [.int .i8, .int .i16, .fl .f32] x3))⟩], 3, []⟩), ((Nat.beq (r16l0 (m + 1) x0 x1 x2 x3) 1), .exit 0, [.pointer (some ⟨0, 0, some 0⟩), anyV], ⟨[⟨true, (some (.cells [wsl 1, wsl 2]))⟩, ⟨true, (some (.strs x2))⟩, ⟨true, (some (.tab [.int .i8, .int .i16, .fl .f32] x3))⟩], 3, []⟩)].map fun (b, x) => (b, (x.1, frameOf 161 [1, 2] x.2.1, x.2.2))) :=
 (show evC Try.prog ext T42 noL 200 (loopN Try.f16 0) (loopTail ([1, 23, 24, 25], []) [1, 2] [] (sumK 161 [1, 23, 24, 25] [1, 2] (q16l0 m))) (frameOf 161 [1, 23, 24, 25] [.pointer (some ⟨0, 0, some 0⟩), wsl 1, .int .i64 x0, .int .i64 x1]) ⟨[⟨true, (some (.cells [wsl 1, wsl 2]))⟩, ⟨true, (some (.strs x2))⟩, ⟨true, (some (.tab [.int .i8, .int .i16, .fl .f32] x3))⟩], 3, []⟩ = w16l0 (r16l0 m) x0 x1 x2 x3 from by kernel_rfl).trans
 (show w16l0 (r16l0 m) x0 x1 x2 x3 = a16l0 x0 x1 x2 x3 (r16l0 (m + 1) x0 x1 x2 x3) from by unfold w16l0; show _ = a16l0 x0 x1 x2 x3 (b16l0 (r16l0 m) x0 x1 x2 x3); unfold b16l0; exact (cond_both (a16l0 x0 x1 x2 x3) _ (fun h0 => (cond_both (a16l0 x0 x1 x2 x3) _ (fun h1 => (cond_t (ev_and2 h1) (cond_app (a16l0 x0 x1 x2 x3) _ (cond_app (a16l0 x0 x1 x2 x3) _ rfl (cond_app (a16l0 x0 x1 x2 x3) _ (cond_app (a16l0 x0 x1 x2 x3) _ (cond_app (a16l0 x0 x1 x2 x3) _ rfl (v16l0 x0 x1 x2 x3 ((r16l0 m) x0 (IntKind.i64.wrap (x1 + 1)) x2 x3))) rfl) rfl)) rfl))) (fun h1 => rfl))) (fun h0 => rfl)))
set_option maxRecDepth 100000 in
set_option maxHeartbeats 4000000 in
theorem qm16l0 : ∀ m, SumKOk Try.prog (loopN Try.f16 0) 161 [1, 23, 24, 25] [1, 2] (q16l0 m) := by
  intro m
  induction m with
  | zero =>
    intro vals s x h1 h2 h3
    unfold q16l0 at h3; split at h3
    · rename_i h; split at h3
      · rename_i hc; obtain ⟨rfl, rfl, rfl, rfl, rfl, rfl⟩ := hc; exact absurd h3 (by simp [r16l0, firstT, Nat.beq])
      · exact noQ_ok _ _ _ h1 h2 h3
    · exact noQ_ok _ _ _ h1 h2 h3
  | succ m ih =>
    intro vals s x h1 h2 h3
    unfold q16l0 at h3; split at h3
    · rename_i h; split at h3
      · rename_i hc; obtain ⟨rfl, rfl, rfl, rfl, rfl, rfl⟩ := hc; exact sum_step ok42 extOk mixed ((lfOkF_no _ _).inner (by kernel_rfl)) ih h1 h2 h (e16l0 m _ _ _ _) rfl h3
      · exact noQ_ok _ _ _ h1 h2 h3
    · exact noQ_ok _ _ _ h1 h2 h3
noncomputable def Q16l0 : SumK := fun vals s => q16l0 (fuelOf vals s.h) vals s
theorem qok16l0 : SumKOk Try.prog (loopN Try.f16 0) 161 [1, 23, 24, 25] [1, 2] Q16l0 := fuel_ok qm16l0 fuelOf
noncomputable def L16_1 : LoopT := addL noL 5 ([1, 23, 24, 25], []) (sumK 161 [1, 23, 24, 25] [1, 2] Q16l0)
theorem lok16_1 : LfOkF Try.prog L16_1 Try.f16 := lfOkF_add (lfOkF_no _ _) qok16l0 (by kernel_rfl) (by kernel_rfl) (by kernel_rfl)

/-- math.IsNaN -/
noncomputable def r79 (x0 : Nat) : Bool :=
 ((!feq .f64 x0 x0))
noncomputable def a79 (x0 : Nat) (p : Bool) : Res := firstT [(true, .bool p, st0)]
noncomputable def w79 (x0 : Nat) : Res :=
 (a79 x0 ((!feq .f64 x0 x0)))
set_option maxRecDepth 100000 in
set_option maxHeartbeats 4000000 in
theorem e79 (x0 : Nat) : evFn Try.prog ext T42 noL 200 Try.f79 [.float .f64 x0] st0 = firstT [(true, .bool (r79 x0), st0)] :=
 (show evFn Try.prog ext T42 noL 200 Try.f79 [.float .f64 x0] st0 = w79 x0 from by kernel_rfl).trans
 (show w79 x0 = a79 x0 (r79 x0) from by unfold w79 r79; exact rfl)
noncomputable def s79 (args : List Value) (s : St) : List (Bool × Value × St) :=
 match args, s.h with
 | [.float .f64 x0], [] => [(true, .bool (r79 x0), st0)]
 | _, _ => T42 79 args s
noncomputable def T43 : CallF := addF T42 79 s79
set_option maxRecDepth 100000 in
set_option maxHeartbeats 4000000 in
theorem ok43 : CfOk Try.prog T43 := by
  refine cfOk_add ok42 fun args s r s' h1 h2 h3 => ?_
  unfold s79 at h3; split at h3
  · rename_i h; exact callOk ok42 Try.func79 h1 h2 h (lfOkF_no _ _).body (e79 _) rfl h3
  · exact ok42 _ _ _ _ _ h1 h2 h3

/-- math.Abs -/
noncomputable def r92 (x0 : Nat) : Nat :=
 cond (!isN .f64 x0)
  ((Int.toNat (bits .andNot .u64 ((x0 : Nat) : Int) 9223372036854775808)))
  (9221120237041090560)
noncomputable def a92 (x0 : Nat) (p : Nat) : Res := firstT [(true, .float .f64 p, st0)]
noncomputable def w92 (x0 : Nat) : Res :=
 (cond (!isN .f64 x0)
 (a92 x0 ((Int.toNat (bits .andNot .u64 ((x0 : Nat) : Int) 9223372036854775808))))
 (a92 x0 (9221120237041090560)))
set_option maxRecDepth 100000 in
set_option maxHeartbeats 4000000 in
theorem e92 (x0 : Nat) : evFn Try.prog ext T43 noL 200 Try.f92 [.float .f64 x0] st0 = firstT [(true, .float .f64 (r92 x0), st0)] :=
 (show evFn Try.prog ext T43 noL 200 Try.f92 [.float .f64 x0] st0 = w92 x0 from by kernel_rfl).trans
 (show w92 x0 = a92 x0 (r92 x0) from by unfold w92 r92; exact (cond_app (a92 x0) _ rfl rfl))
noncomputable def s92 (args : List Value) (s : St) : List (Bool × Value × St) :=
 match args, s.h with
 | [.float .f64 x0], [] => [(true, .float .f64 (r92 x0), st0)]
 | _, _ => T43 92 args s
noncomputable def T44 : CallF := addF T43 92 s92
set_option maxRecDepth 100000 in
set_option maxHeartbeats 4000000 in
theorem ok44 : CfOk Try.prog T44 := by
  refine cfOk_add ok43 fun args s r s' h1 h2 h3 => ?_
  unfold s92 at h3; split at h3
  · rename_i h; exact callOk ok43 Try.func92 h1 h2 h (lfOkF_no _ _).body (e92 _) rfl h3
  · exact ok43 _ _ _ _ _ h1 h2 h3

/-- math.IsInf -/
noncomputable def r80 (x0 : Nat) (x1 : Int) : Bool :=
 cond ((x1 : Int) == 0)
  ((fgt .f64 (r92 x0) 9218868437227405311))
  (cond (decide ((x1 : Int) < 0))
   ((fgt .f64 (fneg .f64 x0) 9218868437227405311))
   ((fgt .f64 x0 9218868437227405311)))
noncomputable def a80 (x0 : Nat) (x1 : Int) (p : Bool) : Res := firstT [(true, .bool p, st0)]
noncomputable def w80 (x0 : Nat) (x1 : Int) : Res :=
 (cond ((x1 : Int) == 0)
 (a80 x0 x1 ((fgt .f64 (r92 x0) 9218868437227405311)))
 (cond (decide ((x1 : Int) < 0))
  (a80 x0 x1 ((fgt .f64 (fneg .f64 x0) 9218868437227405311)))
  (a80 x0 x1 ((fgt .f64 x0 9218868437227405311)))))
set_option maxRecDepth 100000 in
set_option maxHeartbeats 4000000 in
theorem e80 (x0 : Nat) (x1 : Int) : evFn Try.prog ext T44 noL 200 Try.f80 [.float .f64 x0, .int .i64 x1] st0 = firstT [(true, .bool (r80 x0 x1), st0)] :=
 (show evFn Try.prog ext T44 noL 200 Try.f80 [.float .f64 x0, .int .i64 x1] st0 = w80 x0 x1 from by kernel_rfl).trans
 (show w80 x0 x1 = a80 x0 x1 (r80 x0 x1) from by unfold w80 r80; exact (cond_app (a80 x0 x1) _ rfl (cond_app (a80 x0 x1) _ rfl rfl)))
noncomputable def s80 (args : List Value) (s : St) : List (Bool × Value × St) :=
 match args, s.h with
 | [.float .f64 x0, .int .i64 x1], [] => [(true, .bool (r80 x0 x1), st0)]
 | _, _ => T44 80 args s
noncomputable def T45 : CallF := addF T44 80 s80
set_option maxRecDepth 100000 in
set_option maxHeartbeats 4000000 in
theorem ok45 : CfOk Try.prog T45 := by
  refine cfOk_add ok44 fun args s r s' h1 h2 h3 => ?_
  unfold s80 at h3; split at h3
  · rename_i h; exact callOk ok44 Try.func80 h1 h2 h (lfOkF_no _ _).body (e80 _ _) rfl h3
  · exact ok44 _ _ _ _ _ h1 h2 h3

/-- impl.isFinite -/
noncomputable def r51 (x0 : Nat) : Bool :=
 cond (r79 (widen x0))
  (false)
  (cond (r80 (widen x0) 0)
   (false)
   (true))
noncomputable def a51 (x0 : Nat) (p : Bool) : Res := firstT [(true, .bool p, ⟨[⟨true, (some (.tab [.fl .f32] ([[((x0 : Nat) : Int)]] : List (List Int))))⟩], 1, []⟩)]
noncomputable def w51 (x0 : Nat) : Res :=
 (cond (r79 (widen x0))
 (a51 x0 (false))
 (cond (r80 (widen x0) 0)
  (a51 x0 (false))
  (a51 x0 (true))))
set_option maxRecDepth 100000 in
set_option maxHeartbeats 4000000 in
theorem e51 (x0 : Nat) : evFn Try.prog ext T45 noL 200 Try.f51 [.slice (some ⟨0, 0, some 0⟩) 1 1] ⟨[⟨true, (some (.tab [.fl .f32] ([[((x0 : Nat) : Int)]] : List (List Int))))⟩], 1, []⟩ = firstT [(true, .bool (r51 x0), ⟨[⟨true, (some (.tab [.fl .f32] ([[((x0 : Nat) : Int)]] : List (List Int))))⟩], 1, []⟩)] :=
 (show evFn Try.prog ext T45 noL 200 Try.f51 [.slice (some ⟨0, 0, some 0⟩) 1 1] ⟨[⟨true, (some (.tab [.fl .f32] ([[((x0 : Nat) : Int)]] : List (List Int))))⟩], 1, []⟩ = w51 x0 from by kernel_rfl).trans
 (show w51 x0 = a51 x0 (r51 x0) from by unfold w51 r51; exact (cond_app (a51 x0) _ rfl (cond_app (a51 x0) _ rfl rfl)))
noncomputable def s51 (args : List Value) (s : St) : List (Bool × Value × St) :=
 match args, s.h with
 | [.slice (some ⟨f0, f1, some f2⟩) f3 f4], [⟨true, some (.tab [.fl .f32] [[.ofNat x0]])⟩] => if f0 = 0 ∧ f1 = 0 ∧ f2 = 0 ∧ f3 = 1 ∧ f4 = 1 then [(true, .bool (r51 x0), ⟨[⟨true, (some (.tab [.fl .f32] ([[((x0 : Nat) : Int)]] : List (List Int))))⟩], 1, []⟩)] else T45 51 args s
 | _, _ => T45 51 args s
noncomputable def T46 : CallF := addF T45 51 s51
set_option maxRecDepth 100000 in
set_option maxHeartbeats 4000000 in
theorem ok46 : CfOk Try.prog T46 := by
  refine cfOk_add ok45 fun args s r s' h1 h2 h3 => ?_
  unfold s51 at h3; split at h3
  · rename_i h; split at h3
    · rename_i hc; obtain ⟨rfl, rfl, rfl, rfl, rfl⟩ := hc; exact callOk ok45 Try.func51 h1 h2 h (lfOkF_no _ _).body (e51 _) rfl h3
    · exact ok45 _ _ _ _ _ h1 h2 h3
  · exact ok45 _ _ _ _ _ h1 h2 h3

/-- impl.isZero -/
noncomputable def r52 (x0 : Nat) : Bool :=
 cond (!isN .f32 x0)
  (((((x0 : Nat) : Int) : Int) == 0))
  (false)
noncomputable def a52 (x0 : Nat) (p : Bool) : Res := firstT [(true, .bool p, st0)]
noncomputable def w52 (x0 : Nat) : Res :=
 (cond (!isN .f32 x0)
 (a52 x0 (((((x0 : Nat) : Int) : Int) == 0)))
 (a52 x0 (false)))
set_option maxRecDepth 100000 in
set_option maxHeartbeats 4000000 in
theorem e52 (x0 : Nat) : evFn Try.prog ext T46 noL 200 Try.f52 [.float .f32 x0] st0 = firstT [(true, .bool (r52 x0), st0)] :=
 (show evFn Try.prog ext T46 noL 200 Try.f52 [.float .f32 x0] st0 = w52 x0 from by kernel_rfl).trans
 (show w52 x0 = a52 x0 (r52 x0) from by unfold w52 r52; exact (cond_app (a52 x0) _ rfl rfl))
noncomputable def s52 (args : List Value) (s : St) : List (Bool × Value × St) :=
 match args, s.h with
 | [.float .f32 x0], [] => [(true, .bool (r52 x0), st0)]
 | _, _ => T46 52 args s
noncomputable def T47 : CallF := addF T46 52 s52
set_option maxRecDepth 100000 in
set_option maxHeartbeats 4000000 in
theorem ok47 : CfOk Try.prog T47 := by
  refine cfOk_add ok46 fun args s r s' h1 h2 h3 => ?_
  unfold s52 at h3; split at h3
  · rename_i h; exact callOk ok46 Try.func52 h1 h2 h (lfOkF_no _ _).body (e52 _) rfl h3
  · exact ok46 _ _ _ _ _ h1 h2 h3

/-- impl.takes -/
noncomputable def r53 (x0 : Int) : Int × Int :=
 cond ((x0 : Int) == 1)
  (0, 1)
  (cond ((x0 : Int) == 2)
   (0, 1)
   (cond ((x0 : Int) == 3)
    (0, 1)
    (cond ((x0 : Int) == 4)
     (1, 0)
     (cond ((x0 : Int) == 12)
      (1, 1)
      (cond ((x0 : Int) == 11)
       (3, 1)
       (2, 1))))))
noncomputable def a53 (x0 : Int) (p : Int × Int) : Res := firstT [(true, .tuple #[.int .i64 (p.1), .int .i64 (p.2)], st0)]
noncomputable def w53 (x0 : Int) : Res :=
 (cond ((x0 : Int) == 1)
 (cond ((x0 : Int) == 1)
  (a53 x0 (0, 1))
  (cond ((x0 : Int) == 4)
   (some (.tuple #[.int .i64 1, .int .i64 0], st0))
   (cond ((x0 : Int) == 12)
    (some (.tuple #[.int .i64 1, .int .i64 1], st0))
    (cond ((x0 : Int) == 11)
     (some (.tuple #[.int .i64 3, .int .i64 1], st0))
     (some (.tuple #[.int .i64 2, .int .i64 1], st0))))))
 (cond ((x0 : Int) == 2)
  (cond ((x0 : Int) == 2)
   (a53 x0 (0, 1))
   (cond ((x0 : Int) == 4)
    (some (.tuple #[.int .i64 1, .int .i64 0], st0))
    (cond ((x0 : Int) == 12)
     (some (.tuple #[.int .i64 1, .int .i64 1], st0))
     (cond ((x0 : Int) == 11)
      (some (.tuple #[.int .i64 3, .int .i64 1], st0))
      (some (.tuple #[.int .i64 2, .int .i64 1], st0))))))
  (cond ((x0 : Int) == 3)
   (a53 x0 (0, 1))
   (cond ((x0 : Int) == 4)
    (a53 x0 (1, 0))
    (cond ((x0 : Int) == 12)
     (a53 x0 (1, 1))
     (cond ((x0 : Int) == 11)
      (a53 x0 (3, 1))
      (a53 x0 (2, 1))))))))
set_option maxRecDepth 100000 in
set_option maxHeartbeats 4000000 in
theorem e53 (x0 : Int) : evFn Try.prog ext T47 noL 200 Try.f53 [.int .i8 x0] st0 = firstT [(true, .tuple #[.int .i64 ((r53 x0).1), .int .i64 ((r53 x0).2)], st0)] :=
 (show evFn Try.prog ext T47 noL 200 Try.f53 [.int .i8 x0] st0 = w53 x0 from by kernel_rfl).trans
 (show w53 x0 = a53 x0 (r53 x0) from by unfold w53 r53; exact (cond_both (a53 x0) _ (fun h0 => (cond_t h0 rfl)) (fun h0 => (cond_both (a53 x0) _ (fun h1 => (cond_t h1 rfl)) (fun h1 => (cond_app (a53 x0) _ rfl (cond_app (a53 x0) _ rfl (cond_app (a53 x0) _ rfl (cond_app (a53 x0) _ rfl rfl)))))))))
noncomputable def s53 (args : List Value) (s : St) : List (Bool × Value × St) :=
 match args, s.h with
 | [.int .i8 x0], [] => [(true, .tuple #[.int .i64 ((r53 x0).1), .int .i64 ((r53 x0).2)], st0)]
 | _, _ => T47 53 args s
noncomputable def T48 : CallF := addF T47 53 s53
set_option maxRecDepth 100000 in
set_option maxHeartbeats 4000000 in
theorem ok48 : CfOk Try.prog T48 := by
  refine cfOk_add ok47 fun args s r s' h1 h2 h3 => ?_
  unfold s53 at h3; split at h3
  · rename_i h; exact callOk ok47 Try.func53 h1 h2 h (lfOkF_no _ _).body (e53 _) rfl h3
  · exact ok47 _ _ _ _ _ h1 h2 h3
end Go.Proofs.Ytfclciebpnnieaa
