/- What the functions that the statements reach answer, part 5. -/
import Derived.Test.YtfclciebpnnieaaIp4
namespace Go.Proofs.Ytfclciebpnnieaa
open Go.Ab
set_option maxHeartbeats 4000000
set_option maxRecDepth 100000

/-- impl.runOn[impl.Span], loop 0: one round -/
noncomputable def b88l0 (ih : Int → Int → Nat → Nat → Nat → Nat → Nat → Nat → Nat → Nat → List (List Int) → List (List Int) → List (List Int) → (Nat × List (List Int))) (x0 x1 : Int) (x2 x3 x4 x5 x6 x7 x8 x9 : Nat) (x10 x11 x12 : List (List Int)) : Nat × List (List Int) :=
 let c177 := (r90 ((x12.getD (Int.toNat x1) []).getD 0 0) (Int.toNat (IntKind.i64.wrap (((x11.length : Nat) : Int) - ((r53 ((x12.getD (Int.toNat x1) []).getD 0 0)).1)))) (x11.length - (Int.toNat (IntKind.i64.wrap (((x11.length : Nat) : Int) - ((r53 ((x12.getD (Int.toNat x1) []).getD 0 0)).1))))) (x11.length - (Int.toNat (IntKind.i64.wrap (((x11.length : Nat) : Int) - ((r53 ((x12.getD (Int.toNat x1) []).getD 0 0)).1))))) x11)
 cond (decide ((x1 : Int) < x0))
  (cond ((decide ((0 : Int) ≤ x1)) && (Nat.blt (Int.toNat x1) x12.length))
   (cond ((((x12.getD (Int.toNat x1) []).getD 0 0) : Int) == 1)
    (cond (Nat.ble ((x11.length + 1) * 9) 140737488355328)
     (cond (Nat.beq ((ih x0 (IntKind.i64.wrap (x1 + 1)) x2 x3 x4 x5 x6 x7 x8 x9 x10 (((x11.drop 0).take x11.length) ++ ([[(((Int.toNat ((x12.getD (Int.toNat x1) []).getD 2 0)) : Nat) : Int), (((Int.toNat ((x12.getD (Int.toNat x1) []).getD 2 0)) : Nat) : Int)]] : List (List Int))) x12).1) 0)
      (0, [])
      (cond (Nat.beq ((ih x0 (IntKind.i64.wrap (x1 + 1)) x2 x3 x4 x5 x6 x7 x8 x9 x10 (((x11.drop 0).take x11.length) ++ ([[(((Int.toNat ((x12.getD (Int.toNat x1) []).getD 2 0)) : Nat) : Int), (((Int.toNat ((x12.getD (Int.toNat x1) []).getD 2 0)) : Nat) : Int)]] : List (List Int))) x12).1) 1)
       (1, ((ih x0 (IntKind.i64.wrap (x1 + 1)) x2 x3 x4 x5 x6 x7 x8 x9 x10 (((x11.drop 0).take x11.length) ++ ([[(((Int.toNat ((x12.getD (Int.toNat x1) []).getD 2 0)) : Nat) : Int), (((Int.toNat ((x12.getD (Int.toNat x1) []).getD 2 0)) : Nat) : Int)]] : List (List Int))) x12).2))
       (cond (Nat.beq ((ih x0 (IntKind.i64.wrap (x1 + 1)) x2 x3 x4 x5 x6 x7 x8 x9 x10 (((x11.drop 0).take x11.length) ++ ([[(((Int.toNat ((x12.getD (Int.toNat x1) []).getD 2 0)) : Nat) : Int), (((Int.toNat ((x12.getD (Int.toNat x1) []).getD 2 0)) : Nat) : Int)]] : List (List Int))) x12).1) 2)
        (0, [])
        (3, []))))
     (3, []))
    (cond ((((x12.getD (Int.toNat x1) []).getD 0 0) : Int) == 2)
     (cond ((decide ((0 : Int) ≤ ((x12.getD (Int.toNat x1) []).getD 1 0))) && (Nat.blt (Int.toNat ((x12.getD (Int.toNat x1) []).getD 1 0)) 4))
      (cond (Nat.beq (0 + (Int.toNat ((x12.getD (Int.toNat x1) []).getD 1 0)) * 2) 0)
       (cond (Nat.ble ((x11.length + 1) * 9) 140737488355328)
        (cond (Nat.beq ((ih x0 (IntKind.i64.wrap (x1 + 1)) x2 x3 x4 x5 x6 x7 x8 x9 x10 (((x11.drop 0).take x11.length) ++ ([[((x2 : Nat) : Int), ((x3 : Nat) : Int)]] : List (List Int))) x12).1) 0)
         (0, [])
         (cond (Nat.beq ((ih x0 (IntKind.i64.wrap (x1 + 1)) x2 x3 x4 x5 x6 x7 x8 x9 x10 (((x11.drop 0).take x11.length) ++ ([[((x2 : Nat) : Int), ((x3 : Nat) : Int)]] : List (List Int))) x12).1) 1)
          (1, ((ih x0 (IntKind.i64.wrap (x1 + 1)) x2 x3 x4 x5 x6 x7 x8 x9 x10 (((x11.drop 0).take x11.length) ++ ([[((x2 : Nat) : Int), ((x3 : Nat) : Int)]] : List (List Int))) x12).2))
          (cond (Nat.beq ((ih x0 (IntKind.i64.wrap (x1 + 1)) x2 x3 x4 x5 x6 x7 x8 x9 x10 (((x11.drop 0).take x11.length) ++ ([[((x2 : Nat) : Int), ((x3 : Nat) : Int)]] : List (List Int))) x12).1) 2)
           (0, [])
           (3, []))))
        (3, []))
       (cond (Nat.beq (0 + (Int.toNat ((x12.getD (Int.toNat x1) []).getD 1 0)) * 2) 1)
        (cond (Nat.ble ((x11.length + 1) * 9) 140737488355328)
         (cond (Nat.beq ((ih x0 (IntKind.i64.wrap (x1 + 1)) x2 x3 x4 x5 x6 x7 x8 x9 x10 (((x11.drop 0).take x11.length) ++ ([[((x3 : Nat) : Int), ((x4 : Nat) : Int)]] : List (List Int))) x12).1) 0)
          (0, [])
          (cond (Nat.beq ((ih x0 (IntKind.i64.wrap (x1 + 1)) x2 x3 x4 x5 x6 x7 x8 x9 x10 (((x11.drop 0).take x11.length) ++ ([[((x3 : Nat) : Int), ((x4 : Nat) : Int)]] : List (List Int))) x12).1) 1)
           (1, ((ih x0 (IntKind.i64.wrap (x1 + 1)) x2 x3 x4 x5 x6 x7 x8 x9 x10 (((x11.drop 0).take x11.length) ++ ([[((x3 : Nat) : Int), ((x4 : Nat) : Int)]] : List (List Int))) x12).2))
           (cond (Nat.beq ((ih x0 (IntKind.i64.wrap (x1 + 1)) x2 x3 x4 x5 x6 x7 x8 x9 x10 (((x11.drop 0).take x11.length) ++ ([[((x3 : Nat) : Int), ((x4 : Nat) : Int)]] : List (List Int))) x12).1) 2)
            (0, [])
            (3, []))))
         (3, []))
        (cond (Nat.beq (0 + (Int.toNat ((x12.getD (Int.toNat x1) []).getD 1 0)) * 2) 2)
         (cond (Nat.ble ((x11.length + 1) * 9) 140737488355328)
          (cond (Nat.beq ((ih x0 (IntKind.i64.wrap (x1 + 1)) x2 x3 x4 x5 x6 x7 x8 x9 x10 (((x11.drop 0).take x11.length) ++ ([[((x4 : Nat) : Int), ((x5 : Nat) : Int)]] : List (List Int))) x12).1) 0)
           (0, [])
           (cond (Nat.beq ((ih x0 (IntKind.i64.wrap (x1 + 1)) x2 x3 x4 x5 x6 x7 x8 x9 x10 (((x11.drop 0).take x11.length) ++ ([[((x4 : Nat) : Int), ((x5 : Nat) : Int)]] : List (List Int))) x12).1) 1)
            (1, ((ih x0 (IntKind.i64.wrap (x1 + 1)) x2 x3 x4 x5 x6 x7 x8 x9 x10 (((x11.drop 0).take x11.length) ++ ([[((x4 : Nat) : Int), ((x5 : Nat) : Int)]] : List (List Int))) x12).2))
            (cond (Nat.beq ((ih x0 (IntKind.i64.wrap (x1 + 1)) x2 x3 x4 x5 x6 x7 x8 x9 x10 (((x11.drop 0).take x11.length) ++ ([[((x4 : Nat) : Int), ((x5 : Nat) : Int)]] : List (List Int))) x12).1) 2)
             (0, [])
             (3, []))))
          (3, []))
         (cond (Nat.beq (0 + (Int.toNat ((x12.getD (Int.toNat x1) []).getD 1 0)) * 2) 3)
          (cond (Nat.ble ((x11.length + 1) * 9) 140737488355328)
           (cond (Nat.beq ((ih x0 (IntKind.i64.wrap (x1 + 1)) x2 x3 x4 x5 x6 x7 x8 x9 x10 (((x11.drop 0).take x11.length) ++ ([[((x5 : Nat) : Int), ((x6 : Nat) : Int)]] : List (List Int))) x12).1) 0)
            (0, [])
            (cond (Nat.beq ((ih x0 (IntKind.i64.wrap (x1 + 1)) x2 x3 x4 x5 x6 x7 x8 x9 x10 (((x11.drop 0).take x11.length) ++ ([[((x5 : Nat) : Int), ((x6 : Nat) : Int)]] : List (List Int))) x12).1) 1)
             (1, ((ih x0 (IntKind.i64.wrap (x1 + 1)) x2 x3 x4 x5 x6 x7 x8 x9 x10 (((x11.drop 0).take x11.length) ++ ([[((x5 : Nat) : Int), ((x6 : Nat) : Int)]] : List (List Int))) x12).2))
             (cond (Nat.beq ((ih x0 (IntKind.i64.wrap (x1 + 1)) x2 x3 x4 x5 x6 x7 x8 x9 x10 (((x11.drop 0).take x11.length) ++ ([[((x5 : Nat) : Int), ((x6 : Nat) : Int)]] : List (List Int))) x12).1) 2)
              (0, [])
              (3, []))))
           (3, []))
          (cond (Nat.beq (0 + (Int.toNat ((x12.getD (Int.toNat x1) []).getD 1 0)) * 2) 4)
           (cond (Nat.ble ((x11.length + 1) * 9) 140737488355328)
            (cond (Nat.beq ((ih x0 (IntKind.i64.wrap (x1 + 1)) x2 x3 x4 x5 x6 x7 x8 x9 x10 (((x11.drop 0).take x11.length) ++ ([[((x6 : Nat) : Int), ((x7 : Nat) : Int)]] : List (List Int))) x12).1) 0)
             (0, [])
             (cond (Nat.beq ((ih x0 (IntKind.i64.wrap (x1 + 1)) x2 x3 x4 x5 x6 x7 x8 x9 x10 (((x11.drop 0).take x11.length) ++ ([[((x6 : Nat) : Int), ((x7 : Nat) : Int)]] : List (List Int))) x12).1) 1)
              (1, ((ih x0 (IntKind.i64.wrap (x1 + 1)) x2 x3 x4 x5 x6 x7 x8 x9 x10 (((x11.drop 0).take x11.length) ++ ([[((x6 : Nat) : Int), ((x7 : Nat) : Int)]] : List (List Int))) x12).2))
              (cond (Nat.beq ((ih x0 (IntKind.i64.wrap (x1 + 1)) x2 x3 x4 x5 x6 x7 x8 x9 x10 (((x11.drop 0).take x11.length) ++ ([[((x6 : Nat) : Int), ((x7 : Nat) : Int)]] : List (List Int))) x12).1) 2)
               (0, [])
               (3, []))))
            (3, []))
           (cond (Nat.beq (0 + (Int.toNat ((x12.getD (Int.toNat x1) []).getD 1 0)) * 2) 5)
            (cond (Nat.ble ((x11.length + 1) * 9) 140737488355328)
             (cond (Nat.beq ((ih x0 (IntKind.i64.wrap (x1 + 1)) x2 x3 x4 x5 x6 x7 x8 x9 x10 (((x11.drop 0).take x11.length) ++ ([[((x7 : Nat) : Int), ((x8 : Nat) : Int)]] : List (List Int))) x12).1) 0)
              (0, [])
              (cond (Nat.beq ((ih x0 (IntKind.i64.wrap (x1 + 1)) x2 x3 x4 x5 x6 x7 x8 x9 x10 (((x11.drop 0).take x11.length) ++ ([[((x7 : Nat) : Int), ((x8 : Nat) : Int)]] : List (List Int))) x12).1) 1)
               (1, ((ih x0 (IntKind.i64.wrap (x1 + 1)) x2 x3 x4 x5 x6 x7 x8 x9 x10 (((x11.drop 0).take x11.length) ++ ([[((x7 : Nat) : Int), ((x8 : Nat) : Int)]] : List (List Int))) x12).2))
               (cond (Nat.beq ((ih x0 (IntKind.i64.wrap (x1 + 1)) x2 x3 x4 x5 x6 x7 x8 x9 x10 (((x11.drop 0).take x11.length) ++ ([[((x7 : Nat) : Int), ((x8 : Nat) : Int)]] : List (List Int))) x12).1) 2)
                (0, [])
                (3, []))))
             (3, []))
            (cond (Nat.beq (0 + (Int.toNat ((x12.getD (Int.toNat x1) []).getD 1 0)) * 2) 6)
             (cond (Nat.ble ((x11.length + 1) * 9) 140737488355328)
              (cond (Nat.beq ((ih x0 (IntKind.i64.wrap (x1 + 1)) x2 x3 x4 x5 x6 x7 x8 x9 x10 (((x11.drop 0).take x11.length) ++ ([[((x8 : Nat) : Int), ((x9 : Nat) : Int)]] : List (List Int))) x12).1) 0)
               (0, [])
               (cond (Nat.beq ((ih x0 (IntKind.i64.wrap (x1 + 1)) x2 x3 x4 x5 x6 x7 x8 x9 x10 (((x11.drop 0).take x11.length) ++ ([[((x8 : Nat) : Int), ((x9 : Nat) : Int)]] : List (List Int))) x12).1) 1)
                (1, ((ih x0 (IntKind.i64.wrap (x1 + 1)) x2 x3 x4 x5 x6 x7 x8 x9 x10 (((x11.drop 0).take x11.length) ++ ([[((x8 : Nat) : Int), ((x9 : Nat) : Int)]] : List (List Int))) x12).2))
                (cond (Nat.beq ((ih x0 (IntKind.i64.wrap (x1 + 1)) x2 x3 x4 x5 x6 x7 x8 x9 x10 (((x11.drop 0).take x11.length) ++ ([[((x8 : Nat) : Int), ((x9 : Nat) : Int)]] : List (List Int))) x12).1) 2)
                 (0, [])
                 (3, []))))
              (3, []))
             (3, []))))))))
      (3, []))
     (cond ((((x12.getD (Int.toNat x1) []).getD 0 0) : Int) == 3)
      (cond ((decide ((0 : Int) ≤ ((x12.getD (Int.toNat x1) []).getD 1 0))) && (Nat.blt (Int.toNat ((x12.getD (Int.toNat x1) []).getD 1 0)) x10.length))
       (cond (Nat.ble ((x11.length + 1) * 9) 140737488355328)
        (cond (Nat.beq ((ih x0 (IntKind.i64.wrap (x1 + 1)) x2 x3 x4 x5 x6 x7 x8 x9 x10 (((x11.drop 0).take x11.length) ++ ([[(((Int.toNat ((x10.getD (Int.toNat ((x12.getD (Int.toNat x1) []).getD 1 0)) []).getD 0 0)) : Nat) : Int), (((Int.toNat ((x10.getD (Int.toNat ((x12.getD (Int.toNat x1) []).getD 1 0)) []).getD 1 0)) : Nat) : Int)]] : List (List Int))) x12).1) 0)
         (0, [])
         (cond (Nat.beq ((ih x0 (IntKind.i64.wrap (x1 + 1)) x2 x3 x4 x5 x6 x7 x8 x9 x10 (((x11.drop 0).take x11.length) ++ ([[(((Int.toNat ((x10.getD (Int.toNat ((x12.getD (Int.toNat x1) []).getD 1 0)) []).getD 0 0)) : Nat) : Int), (((Int.toNat ((x10.getD (Int.toNat ((x12.getD (Int.toNat x1) []).getD 1 0)) []).getD 1 0)) : Nat) : Int)]] : List (List Int))) x12).1) 1)
          (1, ((ih x0 (IntKind.i64.wrap (x1 + 1)) x2 x3 x4 x5 x6 x7 x8 x9 x10 (((x11.drop 0).take x11.length) ++ ([[(((Int.toNat ((x10.getD (Int.toNat ((x12.getD (Int.toNat x1) []).getD 1 0)) []).getD 0 0)) : Nat) : Int), (((Int.toNat ((x10.getD (Int.toNat ((x12.getD (Int.toNat x1) []).getD 1 0)) []).getD 1 0)) : Nat) : Int)]] : List (List Int))) x12).2))
          (cond (Nat.beq ((ih x0 (IntKind.i64.wrap (x1 + 1)) x2 x3 x4 x5 x6 x7 x8 x9 x10 (((x11.drop 0).take x11.length) ++ ([[(((Int.toNat ((x10.getD (Int.toNat ((x12.getD (Int.toNat x1) []).getD 1 0)) []).getD 0 0)) : Nat) : Int), (((Int.toNat ((x10.getD (Int.toNat ((x12.getD (Int.toNat x1) []).getD 1 0)) []).getD 1 0)) : Nat) : Int)]] : List (List Int))) x12).1) 2)
           (0, [])
           (3, []))))
        (3, []))
       (3, []))
      (cond ((Nat.blt (Int.toNat (IntKind.i64.wrap (((x11.length : Nat) : Int) - ((r53 ((x12.getD (Int.toNat x1) []).getD 0 0)).1)))) x11.length) && (((decide ((0 : Int) ≤ (IntKind.i64.wrap (((x11.length : Nat) : Int) - ((r53 ((x12.getD (Int.toNat x1) []).getD 0 0)).1))))) && (Nat.ble (Int.toNat (IntKind.i64.wrap (((x11.length : Nat) : Int) - ((r53 ((x12.getD (Int.toNat x1) []).getD 0 0)).1)))) x11.length)) && (Nat.ble x11.length x11.length)))
       (cond ((((x12.getD (Int.toNat x1) []).getD 0 0) : Int) == 4)
        (cond (Nat.blt 0 (x11.length - (Int.toNat (IntKind.i64.wrap (((x11.length : Nat) : Int) - ((r53 ((x12.getD (Int.toNat x1) []).getD 0 0)).1))))))
         (cond (Nat.blt ((Int.toNat (IntKind.i64.wrap (((x11.length : Nat) : Int) - ((r53 ((x12.getD (Int.toNat x1) []).getD 0 0)).1)))) + 0) x11.length)
          (cond (Nat.ble ((x10.length + 1) * 9) 140737488355328)
           (cond ((Nat.blt 0 x11.length) && (Nat.ble 0 x11.length))
            (cond (Nat.beq ((ih x0 (IntKind.i64.wrap (x1 + 1)) x2 x3 x4 x5 x6 x7 x8 x9 (((x10.drop 0).take x10.length) ++ ([[(((Int.toNat ((x11.getD ((Int.toNat (IntKind.i64.wrap (((x11.length : Nat) : Int) - ((r53 ((x12.getD (Int.toNat x1) []).getD 0 0)).1)))) + 0) []).getD 0 0)) : Nat) : Int), (((Int.toNat ((x11.getD ((Int.toNat (IntKind.i64.wrap (((x11.length : Nat) : Int) - ((r53 ((x12.getD (Int.toNat x1) []).getD 0 0)).1)))) + 0) []).getD 1 0)) : Nat) : Int)]] : List (List Int))) ([] : List (List Int)) x12).1) 0)
             (1, (((x10.drop 0).take x10.length) ++ ([[(((Int.toNat ((x11.getD ((Int.toNat (IntKind.i64.wrap (((x11.length : Nat) : Int) - ((r53 ((x12.getD (Int.toNat x1) []).getD 0 0)).1)))) + 0) []).getD 0 0)) : Nat) : Int), (((Int.toNat ((x11.getD ((Int.toNat (IntKind.i64.wrap (((x11.length : Nat) : Int) - ((r53 ((x12.getD (Int.toNat x1) []).getD 0 0)).1)))) + 0) []).getD 1 0)) : Nat) : Int)]] : List (List Int))))
             (cond (Nat.beq ((ih x0 (IntKind.i64.wrap (x1 + 1)) x2 x3 x4 x5 x6 x7 x8 x9 (((x10.drop 0).take x10.length) ++ ([[(((Int.toNat ((x11.getD ((Int.toNat (IntKind.i64.wrap (((x11.length : Nat) : Int) - ((r53 ((x12.getD (Int.toNat x1) []).getD 0 0)).1)))) + 0) []).getD 0 0)) : Nat) : Int), (((Int.toNat ((x11.getD ((Int.toNat (IntKind.i64.wrap (((x11.length : Nat) : Int) - ((r53 ((x12.getD (Int.toNat x1) []).getD 0 0)).1)))) + 0) []).getD 1 0)) : Nat) : Int)]] : List (List Int))) ([] : List (List Int)) x12).1) 1)
              (1, ((ih x0 (IntKind.i64.wrap (x1 + 1)) x2 x3 x4 x5 x6 x7 x8 x9 (((x10.drop 0).take x10.length) ++ ([[(((Int.toNat ((x11.getD ((Int.toNat (IntKind.i64.wrap (((x11.length : Nat) : Int) - ((r53 ((x12.getD (Int.toNat x1) []).getD 0 0)).1)))) + 0) []).getD 0 0)) : Nat) : Int), (((Int.toNat ((x11.getD ((Int.toNat (IntKind.i64.wrap (((x11.length : Nat) : Int) - ((r53 ((x12.getD (Int.toNat x1) []).getD 0 0)).1)))) + 0) []).getD 1 0)) : Nat) : Int)]] : List (List Int))) ([] : List (List Int)) x12).2))
              (cond (Nat.beq ((ih x0 (IntKind.i64.wrap (x1 + 1)) x2 x3 x4 x5 x6 x7 x8 x9 (((x10.drop 0).take x10.length) ++ ([[(((Int.toNat ((x11.getD ((Int.toNat (IntKind.i64.wrap (((x11.length : Nat) : Int) - ((r53 ((x12.getD (Int.toNat x1) []).getD 0 0)).1)))) + 0) []).getD 0 0)) : Nat) : Int), (((Int.toNat ((x11.getD ((Int.toNat (IntKind.i64.wrap (((x11.length : Nat) : Int) - ((r53 ((x12.getD (Int.toNat x1) []).getD 0 0)).1)))) + 0) []).getD 1 0)) : Nat) : Int)]] : List (List Int))) ([] : List (List Int)) x12).1) 2)
               (1, (((x10.drop 0).take x10.length) ++ ([[(((Int.toNat ((x11.getD ((Int.toNat (IntKind.i64.wrap (((x11.length : Nat) : Int) - ((r53 ((x12.getD (Int.toNat x1) []).getD 0 0)).1)))) + 0) []).getD 0 0)) : Nat) : Int), (((Int.toNat ((x11.getD ((Int.toNat (IntKind.i64.wrap (((x11.length : Nat) : Int) - ((r53 ((x12.getD (Int.toNat x1) []).getD 0 0)).1)))) + 0) []).getD 1 0)) : Nat) : Int)]] : List (List Int))))
               (3, []))))
            (3, []))
           (3, []))
          (3, []))
         (3, []))
        (cond (Nat.beq (c177.1) 0)
         (cond ((Nat.blt 0 x11.length) && (((decide ((0 : Int) ≤ (IntKind.i64.wrap (((x11.length : Nat) : Int) - ((r53 ((x12.getD (Int.toNat x1) []).getD 0 0)).1))))) && (Nat.ble 0 (Int.toNat (IntKind.i64.wrap (((x11.length : Nat) : Int) - ((r53 ((x12.getD (Int.toNat x1) []).getD 0 0)).1)))))) && (Nat.ble (Int.toNat (IntKind.i64.wrap (((x11.length : Nat) : Int) - ((r53 ((x12.getD (Int.toNat x1) []).getD 0 0)).1)))) x11.length)))
          (cond ((Nat.ble (Int.toNat (IntKind.i64.wrap (((x11.length : Nat) : Int) - ((r53 ((x12.getD (Int.toNat x1) []).getD 0 0)).1)))) x11.length) && (Nat.ble (((Int.toNat (IntKind.i64.wrap (((x11.length : Nat) : Int) - ((r53 ((x12.getD (Int.toNat x1) []).getD 0 0)).1)))) + 1) * 9) 140737488355328))
           (cond (Nat.beq ((ih x0 (IntKind.i64.wrap (x1 + 1)) x2 x3 x4 x5 x6 x7 x8 x9 x10 (((x11.drop 0).take (Int.toNat (IntKind.i64.wrap (((x11.length : Nat) : Int) - ((r53 ((x12.getD (Int.toNat x1) []).getD 0 0)).1))))) ++ ([[(((c177.2.1) : Nat) : Int), (((c177.2.2) : Nat) : Int)]] : List (List Int))) x12).1) 0)
            (0, [])
            (cond (Nat.beq ((ih x0 (IntKind.i64.wrap (x1 + 1)) x2 x3 x4 x5 x6 x7 x8 x9 x10 (((x11.drop 0).take (Int.toNat (IntKind.i64.wrap (((x11.length : Nat) : Int) - ((r53 ((x12.getD (Int.toNat x1) []).getD 0 0)).1))))) ++ ([[(((c177.2.1) : Nat) : Int), (((c177.2.2) : Nat) : Int)]] : List (List Int))) x12).1) 1)
             (1, ((ih x0 (IntKind.i64.wrap (x1 + 1)) x2 x3 x4 x5 x6 x7 x8 x9 x10 (((x11.drop 0).take (Int.toNat (IntKind.i64.wrap (((x11.length : Nat) : Int) - ((r53 ((x12.getD (Int.toNat x1) []).getD 0 0)).1))))) ++ ([[(((c177.2.1) : Nat) : Int), (((c177.2.2) : Nat) : Int)]] : List (List Int))) x12).2))
             (cond (Nat.beq ((ih x0 (IntKind.i64.wrap (x1 + 1)) x2 x3 x4 x5 x6 x7 x8 x9 x10 (((x11.drop 0).take (Int.toNat (IntKind.i64.wrap (((x11.length : Nat) : Int) - ((r53 ((x12.getD (Int.toNat x1) []).getD 0 0)).1))))) ++ ([[(((c177.2.1) : Nat) : Int), (((c177.2.2) : Nat) : Int)]] : List (List Int))) x12).1) 2)
              (0, [])
              (3, []))))
           (3, []))
          (3, []))
         (3, [])))
       (3, [])))))
   (3, []))
  (2, [])
noncomputable def r88l0 : Nat → Int → Int → Nat → Nat → Nat → Nat → Nat → Nat → Nat → Nat → List (List Int) → List (List Int) → List (List Int) → (Nat × List (List Int))
 | 0 => fun _ _ _ _ _ _ _ _ _ _ _ _ _ => (3, [])
 | m + 1 => b88l0 (r88l0 m)
noncomputable def a88l0 (x0 x1 : Int) (x2 x3 x4 x5 x6 x7 x8 x9 : Nat) (x10 x11 x12 : List (List Int)) (p : Nat × List (List Int)) : Option (Fin' × List Value × St) := firstT ([((Nat.beq (p.1) 0), .exit 0, [wsl 1], ⟨[⟨true, (some (.cells [.float .f32 x2, .float .f32 x3, .float .f32 x4, .float .f32 x5, .float .f32 x6, .float .f32 x7, .float .f32 x8, .float .f32 x9]))⟩, ⟨true, (some (.tab [.fl .f32, .fl .f32] x10))⟩, ⟨true, none⟩, ⟨true, (some (.tab [.int .i8, .int .i16, .fl .f32] x12))⟩], 4, [1, 2]⟩), ((Nat.beq (p.1) 1), .exit 0, [wsl 4], ⟨[⟨true, (some (.cells [.float .f32 x2, .float .f32 x3, .float .f32 x4, .float .f32 x5, .float .f32 x6, .float .f32 x7, .float .f32 x8, .float .f32 x9]))⟩, ⟨true, none⟩, ⟨true, none⟩, ⟨true, (some (.tab [.int .i8, .int .i16, .fl .f32] x12))⟩, ⟨true, (some (.tab [.fl .f32, .fl .f32] (p.2)))⟩], 4, [1, 2]⟩), ((Nat.beq (p.1) 2), .exit 0, [wsl 1], ⟨[⟨true, (some (.cells [.float .f32 x2, .float .f32 x3, .float .f32 x4, .float .f32 x5, .float .f32 x6, .float .f32 x7, .float .f32 x8, .float .f32 x9]))⟩, ⟨true, (some (.tab [.fl .f32, .fl .f32] x10))⟩, ⟨true, (some (.tab [.fl .f32, .fl .f32] x11))⟩, ⟨true, (some (.tab [.int .i8, .int .i16, .fl .f32] x12))⟩], 4, [1, 2]⟩)].map fun (b, x) => (b, (x.1, frameOf 95 [9] x.2.1, x.2.2)))
noncomputable def u88l0 (x0 x1 : Int) (x2 x3 x4 x5 x6 x7 x8 x9 : Nat) (x10 x11 x12 : List (List Int)) (p : Nat × List (List Int)) : Option (Fin' × List Value × St) := alts ([((Nat.beq (p.1) 0), .exit 0, [wsl 1], ⟨[⟨true, (some (.cells [.float .f32 x2, .float .f32 x3, .float .f32 x4, .float .f32 x5, .float .f32 x6, .float .f32 x7, .float .f32 x8, .float .f32 x9]))⟩, ⟨true, (some (.tab [.fl .f32, .fl .f32] x10))⟩, ⟨true, none⟩, ⟨true, (some (.tab [.int .i8, .int .i16, .fl .f32] x12))⟩], 4, [1, 2]⟩), ((Nat.beq (p.1) 1), .exit 0, [wsl 4], ⟨[⟨true, (some (.cells [.float .f32 x2, .float .f32 x3, .float .f32 x4, .float .f32 x5, .float .f32 x6, .float .f32 x7, .float .f32 x8, .float .f32 x9]))⟩, ⟨true, none⟩, ⟨true, none⟩, ⟨true, (some (.tab [.int .i8, .int .i16, .fl .f32] x12))⟩, ⟨true, (some (.tab [.fl .f32, .fl .f32] (p.2)))⟩], 4, [1, 2]⟩), ((Nat.beq (p.1) 2), .exit 0, [wsl 1], ⟨[⟨true, (some (.cells [.float .f32 x2, .float .f32 x3, .float .f32 x4, .float .f32 x5, .float .f32 x6, .float .f32 x7, .float .f32 x8, .float .f32 x9]))⟩, ⟨true, (some (.tab [.fl .f32, .fl .f32] x10))⟩, ⟨true, (some (.tab [.fl .f32, .fl .f32] x11))⟩, ⟨true, (some (.tab [.int .i8, .int .i16, .fl .f32] x12))⟩], 4, [1, 2]⟩)].map fun (b, x) => (b, (x.1, frameOf 95 [9] x.2.1, x.2.2))) some
theorem v88l0 (x0 x1 : Int) (x2 x3 x4 x5 x6 x7 x8 x9 : Nat) (x10 x11 x12 : List (List Int)) (p : Nat × List (List Int)) : u88l0 x0 x1 x2 x3 x4 x5 x6 x7 x8 x9 x10 x11 x12 p = a88l0 x0 x1 x2 x3 x4 x5 x6 x7 x8 x9 x10 x11 x12 p := alts_first _
noncomputable def q88l0 (m : Nat) : SumK := fun vals s =>
 match vals, s.h with
 | [.func (.func f0) ⟨[]⟩ ⟨[]⟩, .func (.func f1) ⟨[]⟩ ⟨[]⟩, .pointer (some ⟨f2, f3, some f4⟩), .iface f5 .nilIface, .iface f6 .nilIface, .iface f7 .nilIface, .int .i64 x0, .int .i64 x1], [⟨true, some (.cells [.float .f32 x2, .float .f32 x3, .float .f32 x4, .float .f32 x5, .float .f32 x6, .float .f32 x7, .float .f32 x8, .float .f32 x9])⟩, ⟨true, some (.tab [.fl .f32, .fl .f32] x10)⟩, ⟨true, some (.tab [.fl .f32, .fl .f32] x11)⟩, ⟨true, some (.tab [.int .i8, .int .i16, .fl .f32] x12)⟩] => if f0 = 89 ∧ f1 = 90 ∧ f2 = 0 ∧ f3 = 0 ∧ f4 = 0 ∧ f5 = 1 ∧ f6 = 2 ∧ f7 = 3 then [((Nat.beq ((r88l0 m x0 x1 x2 x3 x4 x5 x6 x7 x8 x9 x10 x11 x12).1) 0), .exit 0, [wsl 1], ⟨[⟨true, (some (.cells [.float .f32 x2, .float .f32 x3, .float .f32 x4, .float .f32 x5, .float .f32 x6, .float .f32 x7, .float .f32 x8, .float .f32 x9]))⟩, ⟨true, (some (.tab [.fl .f32, .fl .f32] x10))⟩, ⟨true, none⟩, ⟨true, (some (.tab [.int .i8, .int .i16, .fl .f32] x12))⟩], 4, [1, 2]⟩), ((Nat.beq ((r88l0 m x0 x1 x2 x3 x4 x5 x6 x7 x8 x9 x10 x11 x12).1) 1), .exit 0, [wsl 4], ⟨[⟨true, (some (.cells [.float .f32 x2, .float .f32 x3, .float .f32 x4, .float .f32 x5, .float .f32 x6, .float .f32 x7, .float .f32 x8, .float .f32 x9]))⟩, ⟨true, none⟩, ⟨true, none⟩, ⟨true, (some (.tab [.int .i8, .int .i16, .fl .f32] x12))⟩, ⟨true, (some (.tab [.fl .f32, .fl .f32] ((r88l0 m x0 x1 x2 x3 x4 x5 x6 x7 x8 x9 x10 x11 x12).2)))⟩], 4, [1, 2]⟩), ((Nat.beq ((r88l0 m x0 x1 x2 x3 x4 x5 x6 x7 x8 x9 x10 x11 x12).1) 2), .exit 0, [wsl 1], ⟨[⟨true, (some (.cells [.float .f32 x2, .float .f32 x3, .float .f32 x4, .float .f32 x5, .float .f32 x6, .float .f32 x7, .float .f32 x8, .float .f32 x9]))⟩, ⟨true, (some (.tab [.fl .f32, .fl .f32] x10))⟩, ⟨true, (some (.tab [.fl .f32, .fl .f32] x11))⟩, ⟨true, (some (.tab [.int .i8, .int .i16, .fl .f32] x12))⟩], 4, [1, 2]⟩)] else noQ vals s
 | _, _ => noQ vals s
noncomputable def w88l0 (ih : Int → Int → Nat → Nat → Nat → Nat → Nat → Nat → Nat → Nat → List (List Int) → List (List Int) → List (List Int) → (Nat × List (List Int))) (x0 x1 : Int) (x2 x3 x4 x5 x6 x7 x8 x9 : Nat) (x10 x11 x12 : List (List Int)) : Option (Fin' × List Value × St) :=
 let c177 := (r90 ((x12.getD (Int.toNat x1) []).getD 0 0) (Int.toNat (IntKind.i64.wrap (((x11.length : Nat) : Int) - ((r53 ((x12.getD (Int.toNat x1) []).getD 0 0)).1)))) (x11.length - (Int.toNat (IntKind.i64.wrap (((x11.length : Nat) : Int) - ((r53 ((x12.getD (Int.toNat x1) []).getD 0 0)).1))))) (x11.length - (Int.toNat (IntKind.i64.wrap (((x11.length : Nat) : Int) - ((r53 ((x12.getD (Int.toNat x1) []).getD 0 0)).1))))) x11)
 (cond (decide ((x1 : Int) < x0))
 (cond ((decide ((0 : Int) ≤ x1)) && (Nat.blt (Int.toNat x1) x12.length))
  (cond (Nat.blt (Int.toNat x1) x12.length)
   (cond ((((x12.getD (Int.toNat x1) []).getD 0 0) : Int) == 1)
    (cond (Nat.ble ((x11.length + 1) * 9) 140737488355328)
     (cond (Nat.beq ((ih x0 (IntKind.i64.wrap (x1 + 1)) x2 x3 x4 x5 x6 x7 x8 x9 x10 (((x11.drop 0).take x11.length) ++ ([[(((Int.toNat ((x12.getD (Int.toNat x1) []).getD 2 0)) : Nat) : Int), (((Int.toNat ((x12.getD (Int.toNat x1) []).getD 2 0)) : Nat) : Int)]] : List (List Int))) x12).1) 0)
      (a88l0 x0 x1 x2 x3 x4 x5 x6 x7 x8 x9 x10 x11 x12 (0, []))
      (cond (Nat.beq ((ih x0 (IntKind.i64.wrap (x1 + 1)) x2 x3 x4 x5 x6 x7 x8 x9 x10 (((x11.drop 0).take x11.length) ++ ([[(((Int.toNat ((x12.getD (Int.toNat x1) []).getD 2 0)) : Nat) : Int), (((Int.toNat ((x12.getD (Int.toNat x1) []).getD 2 0)) : Nat) : Int)]] : List (List Int))) x12).1) 1)
       (a88l0 x0 x1 x2 x3 x4 x5 x6 x7 x8 x9 x10 x11 x12 (1, ((ih x0 (IntKind.i64.wrap (x1 + 1)) x2 x3 x4 x5 x6 x7 x8 x9 x10 (((x11.drop 0).take x11.length) ++ ([[(((Int.toNat ((x12.getD (Int.toNat x1) []).getD 2 0)) : Nat) : Int), (((Int.toNat ((x12.getD (Int.toNat x1) []).getD 2 0)) : Nat) : Int)]] : List (List Int))) x12).2)))
       (cond (Nat.beq ((ih x0 (IntKind.i64.wrap (x1 + 1)) x2 x3 x4 x5 x6 x7 x8 x9 x10 (((x11.drop 0).take x11.length) ++ ([[(((Int.toNat ((x12.getD (Int.toNat x1) []).getD 2 0)) : Nat) : Int), (((Int.toNat ((x12.getD (Int.toNat x1) []).getD 2 0)) : Nat) : Int)]] : List (List Int))) x12).1) 2)
        (a88l0 x0 x1 x2 x3 x4 x5 x6 x7 x8 x9 x10 x11 x12 (0, []))
        none)))
     none)
    (cond ((((x12.getD (Int.toNat x1) []).getD 0 0) : Int) == 2)
     (cond ((decide ((0 : Int) ≤ ((x12.getD (Int.toNat x1) []).getD 1 0))) && (Nat.blt (Int.toNat ((x12.getD (Int.toNat x1) []).getD 1 0)) 4))
      (cond (Nat.beq (0 + (Int.toNat ((x12.getD (Int.toNat x1) []).getD 1 0)) * 2) 0)
       (cond (Nat.ble ((x11.length + 1) * 9) 140737488355328)
        (cond (Nat.beq ((ih x0 (IntKind.i64.wrap (x1 + 1)) x2 x3 x4 x5 x6 x7 x8 x9 x10 (((x11.drop 0).take x11.length) ++ ([[((x2 : Nat) : Int), ((x3 : Nat) : Int)]] : List (List Int))) x12).1) 0)
         (a88l0 x0 x1 x2 x3 x4 x5 x6 x7 x8 x9 x10 x11 x12 (0, []))
         (cond (Nat.beq ((ih x0 (IntKind.i64.wrap (x1 + 1)) x2 x3 x4 x5 x6 x7 x8 x9 x10 (((x11.drop 0).take x11.length) ++ ([[((x2 : Nat) : Int), ((x3 : Nat) : Int)]] : List (List Int))) x12).1) 1)
          (a88l0 x0 x1 x2 x3 x4 x5 x6 x7 x8 x9 x10 x11 x12 (1, ((ih x0 (IntKind.i64.wrap (x1 + 1)) x2 x3 x4 x5 x6 x7 x8 x9 x10 (((x11.drop 0).take x11.length) ++ ([[((x2 : Nat) : Int), ((x3 : Nat) : Int)]] : List (List Int))) x12).2)))
          (cond (Nat.beq ((ih x0 (IntKind.i64.wrap (x1 + 1)) x2 x3 x4 x5 x6 x7 x8 x9 x10 (((x11.drop 0).take x11.length) ++ ([[((x2 : Nat) : Int), ((x3 : Nat) : Int)]] : List (List Int))) x12).1) 2)
           (a88l0 x0 x1 x2 x3 x4 x5 x6 x7 x8 x9 x10 x11 x12 (0, []))
           none)))
        none)
       (cond (Nat.beq (0 + (Int.toNat ((x12.getD (Int.toNat x1) []).getD 1 0)) * 2) 1)
        (cond (Nat.ble ((x11.length + 1) * 9) 140737488355328)
         (cond (Nat.beq ((ih x0 (IntKind.i64.wrap (x1 + 1)) x2 x3 x4 x5 x6 x7 x8 x9 x10 (((x11.drop 0).take x11.length) ++ ([[((x3 : Nat) : Int), ((x4 : Nat) : Int)]] : List (List Int))) x12).1) 0)
          (a88l0 x0 x1 x2 x3 x4 x5 x6 x7 x8 x9 x10 x11 x12 (0, []))
          (cond (Nat.beq ((ih x0 (IntKind.i64.wrap (x1 + 1)) x2 x3 x4 x5 x6 x7 x8 x9 x10 (((x11.drop 0).take x11.length) ++ ([[((x3 : Nat) : Int), ((x4 : Nat) : Int)]] : List (List Int))) x12).1) 1)
           (a88l0 x0 x1 x2 x3 x4 x5 x6 x7 x8 x9 x10 x11 x12 (1, ((ih x0 (IntKind.i64.wrap (x1 + 1)) x2 x3 x4 x5 x6 x7 x8 x9 x10 (((x11.drop 0).take x11.length) ++ ([[((x3 : Nat) : Int), ((x4 : Nat) : Int)]] : List (List Int))) x12).2)))
           (cond (Nat.beq ((ih x0 (IntKind.i64.wrap (x1 + 1)) x2 x3 x4 x5 x6 x7 x8 x9 x10 (((x11.drop 0).take x11.length) ++ ([[((x3 : Nat) : Int), ((x4 : Nat) : Int)]] : List (List Int))) x12).1) 2)
            (a88l0 x0 x1 x2 x3 x4 x5 x6 x7 x8 x9 x10 x11 x12 (0, []))
            none)))
         none)
        (cond (Nat.beq (0 + (Int.toNat ((x12.getD (Int.toNat x1) []).getD 1 0)) * 2) 2)
         (cond (Nat.ble ((x11.length + 1) * 9) 140737488355328)
          (cond (Nat.beq ((ih x0 (IntKind.i64.wrap (x1 + 1)) x2 x3 x4 x5 x6 x7 x8 x9 x10 (((x11.drop 0).take x11.length) ++ ([[((x4 : Nat) : Int), ((x5 : Nat) : Int)]] : List (List Int))) x12).1) 0)
           (a88l0 x0 x1 x2 x3 x4 x5 x6 x7 x8 x9 x10 x11 x12 (0, []))
           (cond (Nat.beq ((ih x0 (IntKind.i64.wrap (x1 + 1)) x2 x3 x4 x5 x6 x7 x8 x9 x10 (((x11.drop 0).take x11.length) ++ ([[((x4 : Nat) : Int), ((x5 : Nat) : Int)]] : List (List Int))) x12).1) 1)
            (a88l0 x0 x1 x2 x3 x4 x5 x6 x7 x8 x9 x10 x11 x12 (1, ((ih x0 (IntKind.i64.wrap (x1 + 1)) x2 x3 x4 x5 x6 x7 x8 x9 x10 (((x11.drop 0).take x11.length) ++ ([[((x4 : Nat) : Int), ((x5 : Nat) : Int)]] : List (List Int))) x12).2)))
            (cond (Nat.beq ((ih x0 (IntKind.i64.wrap (x1 + 1)) x2 x3 x4 x5 x6 x7 x8 x9 x10 (((x11.drop 0).take x11.length) ++ ([[((x4 : Nat) : Int), ((x5 : Nat) : Int)]] : List (List Int))) x12).1) 2)
             (a88l0 x0 x1 x2 x3 x4 x5 x6 x7 x8 x9 x10 x11 x12 (0, []))
             none)))
          none)
         (cond (Nat.beq (0 + (Int.toNat ((x12.getD (Int.toNat x1) []).getD 1 0)) * 2) 3)
          (cond (Nat.ble ((x11.length + 1) * 9) 140737488355328)
           (cond (Nat.beq ((ih x0 (IntKind.i64.wrap (x1 + 1)) x2 x3 x4 x5 x6 x7 x8 x9 x10 (((x11.drop 0).take x11.length) ++ ([[((x5 : Nat) : Int), ((x6 : Nat) : Int)]] : List (List Int))) x12).1) 0)
            (a88l0 x0 x1 x2 x3 x4 x5 x6 x7 x8 x9 x10 x11 x12 (0, []))
            (cond (Nat.beq ((ih x0 (IntKind.i64.wrap (x1 + 1)) x2 x3 x4 x5 x6 x7 x8 x9 x10 (((x11.drop 0).take x11.length) ++ ([[((x5 : Nat) : Int), ((x6 : Nat) : Int)]] : List (List Int))) x12).1) 1)
             (a88l0 x0 x1 x2 x3 x4 x5 x6 x7 x8 x9 x10 x11 x12 (1, ((ih x0 (IntKind.i64.wrap (x1 + 1)) x2 x3 x4 x5 x6 x7 x8 x9 x10 (((x11.drop 0).take x11.length) ++ ([[((x5 : Nat) : Int), ((x6 : Nat) : Int)]] : List (List Int))) x12).2)))
             (cond (Nat.beq ((ih x0 (IntKind.i64.wrap (x1 + 1)) x2 x3 x4 x5 x6 x7 x8 x9 x10 (((x11.drop 0).take x11.length) ++ ([[((x5 : Nat) : Int), ((x6 : Nat) : Int)]] : List (List Int))) x12).1) 2)
              (a88l0 x0 x1 x2 x3 x4 x5 x6 x7 x8 x9 x10 x11 x12 (0, []))
              none)))
           none)
          (cond (Nat.beq (0 + (Int.toNat ((x12.getD (Int.toNat x1) []).getD 1 0)) * 2) 4)
           (cond (Nat.ble ((x11.length + 1) * 9) 140737488355328)
            (cond (Nat.beq ((ih x0 (IntKind.i64.wrap (x1 + 1)) x2 x3 x4 x5 x6 x7 x8 x9 x10 (((x11.drop 0).take x11.length) ++ ([[((x6 : Nat) : Int), ((x7 : Nat) : Int)]] : List (List Int))) x12).1) 0)
             (a88l0 x0 x1 x2 x3 x4 x5 x6 x7 x8 x9 x10 x11 x12 (0, []))
             (cond (Nat.beq ((ih x0 (IntKind.i64.wrap (x1 + 1)) x2 x3 x4 x5 x6 x7 x8 x9 x10 (((x11.drop 0).take x11.length) ++ ([[((x6 : Nat) : Int), ((x7 : Nat) : Int)]] : List (List Int))) x12).1) 1)
              (a88l0 x0 x1 x2 x3 x4 x5 x6 x7 x8 x9 x10 x11 x12 (1, ((ih x0 (IntKind.i64.wrap (x1 + 1)) x2 x3 x4 x5 x6 x7 x8 x9 x10 (((x11.drop 0).take x11.length) ++ ([[((x6 : Nat) : Int), ((x7 : Nat) : Int)]] : List (List Int))) x12).2)))
              (cond (Nat.beq ((ih x0 (IntKind.i64.wrap (x1 + 1)) x2 x3 x4 x5 x6 x7 x8 x9 x10 (((x11.drop 0).take x11.length) ++ ([[((x6 : Nat) : Int), ((x7 : Nat) : Int)]] : List (List Int))) x12).1) 2)
               (a88l0 x0 x1 x2 x3 x4 x5 x6 x7 x8 x9 x10 x11 x12 (0, []))
               none)))
            none)
           (cond (Nat.beq (0 + (Int.toNat ((x12.getD (Int.toNat x1) []).getD 1 0)) * 2) 5)
            (cond (Nat.ble ((x11.length + 1) * 9) 140737488355328)
             (cond (Nat.beq ((ih x0 (IntKind.i64.wrap (x1 + 1)) x2 x3 x4 x5 x6 x7 x8 x9 x10 (((x11.drop 0).take x11.length) ++ ([[((x7 : Nat) : Int), ((x8 : Nat) : Int)]] : List (List Int))) x12).1) 0)
              (a88l0 x0 x1 x2 x3 x4 x5 x6 x7 x8 x9 x10 x11 x12 (0, []))
              (cond (Nat.beq ((ih x0 (IntKind.i64.wrap (x1 + 1)) x2 x3 x4 x5 x6 x7 x8 x9 x10 (((x11.drop 0).take x11.length) ++ ([[((x7 : Nat) : Int), ((x8 : Nat) : Int)]] : List (List Int))) x12).1) 1)
               (a88l0 x0 x1 x2 x3 x4 x5 x6 x7 x8 x9 x10 x11 x12 (1, ((ih x0 (IntKind.i64.wrap (x1 + 1)) x2 x3 x4 x5 x6 x7 x8 x9 x10 (((x11.drop 0).take x11.length) ++ ([[((x7 : Nat) : Int), ((x8 : Nat) : Int)]] : List (List Int))) x12).2)))
               (cond (Nat.beq ((ih x0 (IntKind.i64.wrap (x1 + 1)) x2 x3 x4 x5 x6 x7 x8 x9 x10 (((x11.drop 0).take x11.length) ++ ([[((x7 : Nat) : Int), ((x8 : Nat) : Int)]] : List (List Int))) x12).1) 2)
                (a88l0 x0 x1 x2 x3 x4 x5 x6 x7 x8 x9 x10 x11 x12 (0, []))
                none)))
             none)
            (cond (Nat.beq (0 + (Int.toNat ((x12.getD (Int.toNat x1) []).getD 1 0)) * 2) 6)
             (cond (Nat.ble ((x11.length + 1) * 9) 140737488355328)
              (cond (Nat.beq ((ih x0 (IntKind.i64.wrap (x1 + 1)) x2 x3 x4 x5 x6 x7 x8 x9 x10 (((x11.drop 0).take x11.length) ++ ([[((x8 : Nat) : Int), ((x9 : Nat) : Int)]] : List (List Int))) x12).1) 0)
               (a88l0 x0 x1 x2 x3 x4 x5 x6 x7 x8 x9 x10 x11 x12 (0, []))
               (cond (Nat.beq ((ih x0 (IntKind.i64.wrap (x1 + 1)) x2 x3 x4 x5 x6 x7 x8 x9 x10 (((x11.drop 0).take x11.length) ++ ([[((x8 : Nat) : Int), ((x9 : Nat) : Int)]] : List (List Int))) x12).1) 1)
                (a88l0 x0 x1 x2 x3 x4 x5 x6 x7 x8 x9 x10 x11 x12 (1, ((ih x0 (IntKind.i64.wrap (x1 + 1)) x2 x3 x4 x5 x6 x7 x8 x9 x10 (((x11.drop 0).take x11.length) ++ ([[((x8 : Nat) : Int), ((x9 : Nat) : Int)]] : List (List Int))) x12).2)))
                (cond (Nat.beq ((ih x0 (IntKind.i64.wrap (x1 + 1)) x2 x3 x4 x5 x6 x7 x8 x9 x10 (((x11.drop 0).take x11.length) ++ ([[((x8 : Nat) : Int), ((x9 : Nat) : Int)]] : List (List Int))) x12).1) 2)
                 (a88l0 x0 x1 x2 x3 x4 x5 x6 x7 x8 x9 x10 x11 x12 (0, []))
                 none)))
              none)
             none)))))))
      none)
     (cond ((((x12.getD (Int.toNat x1) []).getD 0 0) : Int) == 3)
      (cond ((decide ((0 : Int) ≤ ((x12.getD (Int.toNat x1) []).getD 1 0))) && (Nat.blt (Int.toNat ((x12.getD (Int.toNat x1) []).getD 1 0)) x10.length))
       (cond (Nat.blt (Int.toNat ((x12.getD (Int.toNat x1) []).getD 1 0)) x10.length)
        (cond (Nat.ble ((x11.length + 1) * 9) 140737488355328)
         (cond (Nat.beq ((ih x0 (IntKind.i64.wrap (x1 + 1)) x2 x3 x4 x5 x6 x7 x8 x9 x10 (((x11.drop 0).take x11.length) ++ ([[(((Int.toNat ((x10.getD (Int.toNat ((x12.getD (Int.toNat x1) []).getD 1 0)) []).getD 0 0)) : Nat) : Int), (((Int.toNat ((x10.getD (Int.toNat ((x12.getD (Int.toNat x1) []).getD 1 0)) []).getD 1 0)) : Nat) : Int)]] : List (List Int))) x12).1) 0)
          (a88l0 x0 x1 x2 x3 x4 x5 x6 x7 x8 x9 x10 x11 x12 (0, []))
          (cond (Nat.beq ((ih x0 (IntKind.i64.wrap (x1 + 1)) x2 x3 x4 x5 x6 x7 x8 x9 x10 (((x11.drop 0).take x11.length) ++ ([[(((Int.toNat ((x10.getD (Int.toNat ((x12.getD (Int.toNat x1) []).getD 1 0)) []).getD 0 0)) : Nat) : Int), (((Int.toNat ((x10.getD (Int.toNat ((x12.getD (Int.toNat x1) []).getD 1 0)) []).getD 1 0)) : Nat) : Int)]] : List (List Int))) x12).1) 1)
           (a88l0 x0 x1 x2 x3 x4 x5 x6 x7 x8 x9 x10 x11 x12 (1, ((ih x0 (IntKind.i64.wrap (x1 + 1)) x2 x3 x4 x5 x6 x7 x8 x9 x10 (((x11.drop 0).take x11.length) ++ ([[(((Int.toNat ((x10.getD (Int.toNat ((x12.getD (Int.toNat x1) []).getD 1 0)) []).getD 0 0)) : Nat) : Int), (((Int.toNat ((x10.getD (Int.toNat ((x12.getD (Int.toNat x1) []).getD 1 0)) []).getD 1 0)) : Nat) : Int)]] : List (List Int))) x12).2)))
           (cond (Nat.beq ((ih x0 (IntKind.i64.wrap (x1 + 1)) x2 x3 x4 x5 x6 x7 x8 x9 x10 (((x11.drop 0).take x11.length) ++ ([[(((Int.toNat ((x10.getD (Int.toNat ((x12.getD (Int.toNat x1) []).getD 1 0)) []).getD 0 0)) : Nat) : Int), (((Int.toNat ((x10.getD (Int.toNat ((x12.getD (Int.toNat x1) []).getD 1 0)) []).getD 1 0)) : Nat) : Int)]] : List (List Int))) x12).1) 2)
            (a88l0 x0 x1 x2 x3 x4 x5 x6 x7 x8 x9 x10 x11 x12 (0, []))
            none)))
         none)
        none)
       none)
      (cond ((Nat.blt (Int.toNat (IntKind.i64.wrap (((x11.length : Nat) : Int) - ((r53 ((x12.getD (Int.toNat x1) []).getD 0 0)).1)))) x11.length) && (((decide ((0 : Int) ≤ (IntKind.i64.wrap (((x11.length : Nat) : Int) - ((r53 ((x12.getD (Int.toNat x1) []).getD 0 0)).1))))) && (Nat.ble (Int.toNat (IntKind.i64.wrap (((x11.length : Nat) : Int) - ((r53 ((x12.getD (Int.toNat x1) []).getD 0 0)).1)))) x11.length)) && (Nat.ble x11.length x11.length)))
       (cond ((((x12.getD (Int.toNat x1) []).getD 0 0) : Int) == 4)
        (cond (Nat.blt 0 (x11.length - (Int.toNat (IntKind.i64.wrap (((x11.length : Nat) : Int) - ((r53 ((x12.getD (Int.toNat x1) []).getD 0 0)).1))))))
         (cond (Nat.blt ((Int.toNat (IntKind.i64.wrap (((x11.length : Nat) : Int) - ((r53 ((x12.getD (Int.toNat x1) []).getD 0 0)).1)))) + 0) x11.length)
          (cond (Nat.ble ((x10.length + 1) * 9) 140737488355328)
           (cond ((Nat.blt 0 x11.length) && (Nat.ble 0 x11.length))
            (cond (Nat.ble 0 x11.length)
             (cond (Nat.beq ((ih x0 (IntKind.i64.wrap (x1 + 1)) x2 x3 x4 x5 x6 x7 x8 x9 (((x10.drop 0).take x10.length) ++ ([[(((Int.toNat ((x11.getD ((Int.toNat (IntKind.i64.wrap (((x11.length : Nat) : Int) - ((r53 ((x12.getD (Int.toNat x1) []).getD 0 0)).1)))) + 0) []).getD 0 0)) : Nat) : Int), (((Int.toNat ((x11.getD ((Int.toNat (IntKind.i64.wrap (((x11.length : Nat) : Int) - ((r53 ((x12.getD (Int.toNat x1) []).getD 0 0)).1)))) + 0) []).getD 1 0)) : Nat) : Int)]] : List (List Int))) ([] : List (List Int)) x12).1) 0)
              (a88l0 x0 x1 x2 x3 x4 x5 x6 x7 x8 x9 x10 x11 x12 (1, (((x10.drop 0).take x10.length) ++ ([[(((Int.toNat ((x11.getD ((Int.toNat (IntKind.i64.wrap (((x11.length : Nat) : Int) - ((r53 ((x12.getD (Int.toNat x1) []).getD 0 0)).1)))) + 0) []).getD 0 0)) : Nat) : Int), (((Int.toNat ((x11.getD ((Int.toNat (IntKind.i64.wrap (((x11.length : Nat) : Int) - ((r53 ((x12.getD (Int.toNat x1) []).getD 0 0)).1)))) + 0) []).getD 1 0)) : Nat) : Int)]] : List (List Int)))))
              (cond (Nat.beq ((ih x0 (IntKind.i64.wrap (x1 + 1)) x2 x3 x4 x5 x6 x7 x8 x9 (((x10.drop 0).take x10.length) ++ ([[(((Int.toNat ((x11.getD ((Int.toNat (IntKind.i64.wrap (((x11.length : Nat) : Int) - ((r53 ((x12.getD (Int.toNat x1) []).getD 0 0)).1)))) + 0) []).getD 0 0)) : Nat) : Int), (((Int.toNat ((x11.getD ((Int.toNat (IntKind.i64.wrap (((x11.length : Nat) : Int) - ((r53 ((x12.getD (Int.toNat x1) []).getD 0 0)).1)))) + 0) []).getD 1 0)) : Nat) : Int)]] : List (List Int))) ([] : List (List Int)) x12).1) 1)
               (a88l0 x0 x1 x2 x3 x4 x5 x6 x7 x8 x9 x10 x11 x12 (1, ((ih x0 (IntKind.i64.wrap (x1 + 1)) x2 x3 x4 x5 x6 x7 x8 x9 (((x10.drop 0).take x10.length) ++ ([[(((Int.toNat ((x11.getD ((Int.toNat (IntKind.i64.wrap (((x11.length : Nat) : Int) - ((r53 ((x12.getD (Int.toNat x1) []).getD 0 0)).1)))) + 0) []).getD 0 0)) : Nat) : Int), (((Int.toNat ((x11.getD ((Int.toNat (IntKind.i64.wrap (((x11.length : Nat) : Int) - ((r53 ((x12.getD (Int.toNat x1) []).getD 0 0)).1)))) + 0) []).getD 1 0)) : Nat) : Int)]] : List (List Int))) ([] : List (List Int)) x12).2)))
               (cond (Nat.beq ((ih x0 (IntKind.i64.wrap (x1 + 1)) x2 x3 x4 x5 x6 x7 x8 x9 (((x10.drop 0).take x10.length) ++ ([[(((Int.toNat ((x11.getD ((Int.toNat (IntKind.i64.wrap (((x11.length : Nat) : Int) - ((r53 ((x12.getD (Int.toNat x1) []).getD 0 0)).1)))) + 0) []).getD 0 0)) : Nat) : Int), (((Int.toNat ((x11.getD ((Int.toNat (IntKind.i64.wrap (((x11.length : Nat) : Int) - ((r53 ((x12.getD (Int.toNat x1) []).getD 0 0)).1)))) + 0) []).getD 1 0)) : Nat) : Int)]] : List (List Int))) ([] : List (List Int)) x12).1) 2)
                (a88l0 x0 x1 x2 x3 x4 x5 x6 x7 x8 x9 x10 x11 x12 (1, (((x10.drop 0).take x10.length) ++ ([[(((Int.toNat ((x11.getD ((Int.toNat (IntKind.i64.wrap (((x11.length : Nat) : Int) - ((r53 ((x12.getD (Int.toNat x1) []).getD 0 0)).1)))) + 0) []).getD 0 0)) : Nat) : Int), (((Int.toNat ((x11.getD ((Int.toNat (IntKind.i64.wrap (((x11.length : Nat) : Int) - ((r53 ((x12.getD (Int.toNat x1) []).getD 0 0)).1)))) + 0) []).getD 1 0)) : Nat) : Int)]] : List (List Int)))))
                none)))
             none)
            none)
           none)
          none)
         none)
        (cond (Nat.beq (c177.1) 0)
         (cond ((Nat.blt 0 x11.length) && (((decide ((0 : Int) ≤ (IntKind.i64.wrap (((x11.length : Nat) : Int) - ((r53 ((x12.getD (Int.toNat x1) []).getD 0 0)).1))))) && (Nat.ble 0 (Int.toNat (IntKind.i64.wrap (((x11.length : Nat) : Int) - ((r53 ((x12.getD (Int.toNat x1) []).getD 0 0)).1)))))) && (Nat.ble (Int.toNat (IntKind.i64.wrap (((x11.length : Nat) : Int) - ((r53 ((x12.getD (Int.toNat x1) []).getD 0 0)).1)))) x11.length)))
          (cond ((Nat.ble (Int.toNat (IntKind.i64.wrap (((x11.length : Nat) : Int) - ((r53 ((x12.getD (Int.toNat x1) []).getD 0 0)).1)))) x11.length) && (Nat.ble (((Int.toNat (IntKind.i64.wrap (((x11.length : Nat) : Int) - ((r53 ((x12.getD (Int.toNat x1) []).getD 0 0)).1)))) + 1) * 9) 140737488355328))
           (cond (Nat.beq ((ih x0 (IntKind.i64.wrap (x1 + 1)) x2 x3 x4 x5 x6 x7 x8 x9 x10 (((x11.drop 0).take (Int.toNat (IntKind.i64.wrap (((x11.length : Nat) : Int) - ((r53 ((x12.getD (Int.toNat x1) []).getD 0 0)).1))))) ++ ([[(((c177.2.1) : Nat) : Int), (((c177.2.2) : Nat) : Int)]] : List (List Int))) x12).1) 0)
            (a88l0 x0 x1 x2 x3 x4 x5 x6 x7 x8 x9 x10 x11 x12 (0, []))
            (cond (Nat.beq ((ih x0 (IntKind.i64.wrap (x1 + 1)) x2 x3 x4 x5 x6 x7 x8 x9 x10 (((x11.drop 0).take (Int.toNat (IntKind.i64.wrap (((x11.length : Nat) : Int) - ((r53 ((x12.getD (Int.toNat x1) []).getD 0 0)).1))))) ++ ([[(((c177.2.1) : Nat) : Int), (((c177.2.2) : Nat) : Int)]] : List (List Int))) x12).1) 1)
             (a88l0 x0 x1 x2 x3 x4 x5 x6 x7 x8 x9 x10 x11 x12 (1, ((ih x0 (IntKind.i64.wrap (x1 + 1)) x2 x3 x4 x5 x6 x7 x8 x9 x10 (((x11.drop 0).take (Int.toNat (IntKind.i64.wrap (((x11.length : Nat) : Int) - ((r53 ((x12.getD (Int.toNat x1) []).getD 0 0)).1))))) ++ ([[(((c177.2.1) : Nat) : Int), (((c177.2.2) : Nat) : Int)]] : List (List Int))) x12).2)))
             (cond (Nat.beq ((ih x0 (IntKind.i64.wrap (x1 + 1)) x2 x3 x4 x5 x6 x7 x8 x9 x10 (((x11.drop 0).take (Int.toNat (IntKind.i64.wrap (((x11.length : Nat) : Int) - ((r53 ((x12.getD (Int.toNat x1) []).getD 0 0)).1))))) ++ ([[(((c177.2.1) : Nat) : Int), (((c177.2.2) : Nat) : Int)]] : List (List Int))) x12).1) 2)
              (a88l0 x0 x1 x2 x3 x4 x5 x6 x7 x8 x9 x10 x11 x12 (0, []))
              none)))
           none)
          none)
         none))
       none))))
   none)
  none)
 (a88l0 x0 x1 x2 x3 x4 x5 x6 x7 x8 x9 x10 x11 x12 (2, [])))
set_option maxRecDepth 100000 in
set_option maxHeartbeats 4000000 in
theorem e88l0 (m : Nat) (x0 x1 : Int) (x2 x3 x4 x5 x6 x7 x8 x9 : Nat) (x10 x11 x12 : List (List Int)) : evC Try.prog ext T67 noL 200 (loopN Try.f88 0) (loopTail ([2, 3, 5, 9, 10, 20, 21, 22], [10]) [9] [1, 2] (sumK 95 [2, 3, 5, 9, 10, 20, 21, 22] [9] (q88l0 m))) (frameOf 95 [2, 3, 5, 9, 10, 20, 21, 22] [.func (.func 89) #[] #[], .func (.func 90) #[] #[], .pointer (some ⟨0, 0, some 0⟩), wsl 1, wsl 2, wsl 3, .int .i64 x0, .int .i64 x1]) ⟨[⟨true, (some (.cells [.float .f32 x2, .float .f32 x3, .float .f32 x4, .float .f32 x5, .float .f32 x6, .float .f32 x7, .float .f32 x8, .float .f32 x9]))⟩, ⟨true, (some (.tab [.fl .f32, .fl .f32] x10))⟩, ⟨true, (some (.tab [.fl .f32, .fl .f32] x11))⟩, ⟨true, (some (.tab [.int .i8, .int .i16, .fl .f32] x12))⟩], 4, []⟩ = firstT ([((Nat.beq ((r88l0 (m + 1) x0 x1 x2 x3 x4 x5 x6 x7 x8 x9 x10 x11 x12).1) 0), .exit 0, [wsl 1], ⟨[⟨true, (some (.cells [.float .f32 x2, .float .f32 x3, .float .f32 x4, .float .f32 x5, .float .f32 x6, .float .f32 x7, .float .f32 x8, .float .f32 x9]))⟩, ⟨true, (some (.tab [.fl .f32, .fl .f32] x10))⟩, ⟨true, none⟩, ⟨true, (some (.tab [.int .i8, .int .i16, .fl .f32] x12))⟩], 4, [1, 2]⟩), ((Nat.beq ((r88l0 (m + 1) x0 x1 x2 x3 x4 x5 x6 x7 x8 x9 x10 x11 x12).1) 1), .exit 0, [wsl 4], ⟨[⟨true, (some (.cells [.float .f32 x2, .float .f32 x3, .float .f32 x4, .float .f32 x5, .float .f32 x6, .float .f32 x7, .float .f32 x8, .float .f32 x9]))⟩, ⟨true, none⟩, ⟨true, none⟩, ⟨true, (some (.tab [.int .i8, .int .i16, .fl .f32] x12))⟩, ⟨true, (some (.tab [.fl .f32, .fl .f32] ((r88l0 (m + 1) x0 x1 x2 x3 x4 x5 x6 x7 x8 x9 x10 x11 x12).2)))⟩], 4, [1, 2]⟩), ((Nat.beq ((r88l0 (m + 1) x0 x1 x2 x3 x4 x5 x6 x7 x8 x9 x10 x11 x12).1) 2), .exit 0, [wsl 1], ⟨[⟨true, (some (.cells [.float .f32 x2, .float .f32 x3, .float .f32 x4, .float .f32 x5, .float .f32 x6, .float .f32 x7, .float .f32 x8, .float .f32 x9]))⟩, ⟨true, (some (.tab [.fl .f32, .fl .f32] x10))⟩, ⟨true, (some (.tab [.fl .f32, .fl .f32] x11))⟩, ⟨true, (some (.tab [.int .i8, .int .i16, .fl .f32] x12))⟩], 4, [1, 2]⟩)].map fun (b, x) => (b, (x.1, frameOf 95 [9] x.2.1, x.2.2))) :=
 (show evC Try.prog ext T67 noL 200 (loopN Try.f88 0) (loopTail ([2, 3, 5, 9, 10, 20, 21, 22], [10]) [9] [1, 2] (sumK 95 [2, 3, 5, 9, 10, 20, 21, 22] [9] (q88l0 m))) (frameOf 95 [2, 3, 5, 9, 10, 20, 21, 22] [.func (.func 89) #[] #[], .func (.func 90) #[] #[], .pointer (some ⟨0, 0, some 0⟩), wsl 1, wsl 2, wsl 3, .int .i64 x0, .int .i64 x1]) ⟨[⟨true, (some (.cells [.float .f32 x2, .float .f32 x3, .float .f32 x4, .float .f32 x5, .float .f32 x6, .float .f32 x7, .float .f32 x8, .float .f32 x9]))⟩, ⟨true, (some (.tab [.fl .f32, .fl .f32] x10))⟩, ⟨true, (some (.tab [.fl .f32, .fl .f32] x11))⟩, ⟨true, (some (.tab [.int .i8, .int .i16, .fl .f32] x12))⟩], 4, []⟩ = w88l0 (r88l0 m) x0 x1 x2 x3 x4 x5 x6 x7 x8 x9 x10 x11 x12 from by kernel_rfl).trans
 (show w88l0 (r88l0 m) x0 x1 x2 x3 x4 x5 x6 x7 x8 x9 x10 x11 x12 = a88l0 x0 x1 x2 x3 x4 x5 x6 x7 x8 x9 x10 x11 x12 (r88l0 (m + 1) x0 x1 x2 x3 x4 x5 x6 x7 x8 x9 x10 x11 x12) from by unfold w88l0; show _ = a88l0 x0 x1 x2 x3 x4 x5 x6 x7 x8 x9 x10 x11 x12 (b88l0 (r88l0 m) x0 x1 x2 x3 x4 x5 x6 x7 x8 x9 x10 x11 x12); unfold b88l0; exact (cond_both (a88l0 x0 x1 x2 x3 x4 x5 x6 x7 x8 x9 x10 x11 x12) _ (fun h0 => (cond_both (a88l0 x0 x1 x2 x3 x4 x5 x6 x7 x8 x9 x10 x11 x12) _ (fun h1 => (cond_t (ev_and2 h1) (cond_both (a88l0 x0 x1 x2 x3 x4 x5 x6 x7 x8 x9 x10 x11 x12) _ (fun h2 => (cond_app (a88l0 x0 x1 x2 x3 x4 x5 x6 x7 x8 x9 x10 x11 x12) _ (cond_app (a88l0 x0 x1 x2 x3 x4 x5 x6 x7 x8 x9 x10 x11 x12) _ rfl (cond_app (a88l0 x0 x1 x2 x3 x4 x5 x6 x7 x8 x9 x10 x11 x12) _ rfl (cond_app (a88l0 x0 x1 x2 x3 x4 x5 x6 x7 x8 x9 x10 x11 x12) _ rfl rfl))) rfl)) (fun h2 => (cond_both (a88l0 x0 x1 x2 x3 x4 x5 x6 x7 x8 x9 x10 x11 x12) _ (fun h3 => (cond_app (a88l0 x0 x1 x2 x3 x4 x5 x6 x7 x8 x9 x10 x11 x12) _ (cond_app (a88l0 x0 x1 x2 x3 x4 x5 x6 x7 x8 x9 x10 x11 x12) _ (cond_app (a88l0 x0 x1 x2 x3 x4 x5 x6 x7 x8 x9 x10 x11 x12) _ (cond_app (a88l0 x0 x1 x2 x3 x4 x5 x6 x7 x8 x9 x10 x11 x12) _ rfl (cond_app (a88l0 x0 x1 x2 x3 x4 x5 x6 x7 x8 x9 x10 x11 x12) _ rfl (cond_app (a88l0 x0 x1 x2 x3 x4 x5 x6 x7 x8 x9 x10 x11 x12) _ rfl rfl))) rfl) (cond_app (a88l0 x0 x1 x2 x3 x4 x5 x6 x7 x8 x9 x10 x11 x12) _ (cond_app (a88l0 x0 x1 x2 x3 x4 x5 x6 x7 x8 x9 x10 x11 x12) _ (cond_app (a88l0 x0 x1 x2 x3 x4 x5 x6 x7 x8 x9 x10 x11 x12) _ rfl (cond_app (a88l0 x0 x1 x2 x3 x4 x5 x6 x7 x8 x9 x10 x11 x12) _ rfl (cond_app (a88l0 x0 x1 x2 x3 x4 x5 x6 x7 x8 x9 x10 x11 x12) _ rfl rfl))) rfl) (cond_app (a88l0 x0 x1 x2 x3 x4 x5 x6 x7 x8 x9 x10 x11 x12) _ (cond_app (a88l0 x0 x1 x2 x3 x4 x5 x6 x7 x8 x9 x10 x11 x12) _ (cond_app (a88l0 x0 x1 x2 x3 x4 x5 x6 x7 x8 x9 x10 x11 x12) _ rfl (cond_app (a88l0 x0 x1 x2 x3 x4 x5 x6 x7 x8 x9 x10 x11 x12) _ rfl (cond_app (a88l0 x0 x1 x2 x3 x4 x5 x6 x7 x8 x9 x10 x11 x12) _ rfl rfl))) rfl) (cond_app (a88l0 x0 x1 x2 x3 x4 x5 x6 x7 x8 x9 x10 x11 x12) _ (cond_app (a88l0 x0 x1 x2 x3 x4 x5 x6 x7 x8 x9 x10 x11 x12) _ (cond_app (a88l0 x0 x1 x2 x3 x4 x5 x6 x7 x8 x9 x10 x11 x12) _ rfl (cond_app (a88l0 x0 x1 x2 x3 x4 x5 x6 x7 x8 x9 x10 x11 x12) _ rfl (cond_app (a88l0 x0 x1 x2 x3 x4 x5 x6 x7 x8 x9 x10 x11 x12) _ rfl rfl))) rfl) (cond_app (a88l0 x0 x1 x2 x3 x4 x5 x6 x7 x8 x9 x10 x11 x12) _ (cond_app (a88l0 x0 x1 x2 x3 x4 x5 x6 x7 x8 x9 x10 x11 x12) _ (cond_app (a88l0 x0 x1 x2 x3 x4 x5 x6 x7 x8 x9 x10 x11 x12) _ rfl (cond_app (a88l0 x0 x1 x2 x3 x4 x5 x6 x7 x8 x9 x10 x11 x12) _ rfl (cond_app (a88l0 x0 x1 x2 x3 x4 x5 x6 x7 x8 x9 x10 x11 x12) _ rfl rfl))) rfl) (cond_app (a88l0 x0 x1 x2 x3 x4 x5 x6 x7 x8 x9 x10 x11 x12) _ (cond_app (a88l0 x0 x1 x2 x3 x4 x5 x6 x7 x8 x9 x10 x11 x12) _ (cond_app (a88l0 x0 x1 x2 x3 x4 x5 x6 x7 x8 x9 x10 x11 x12) _ rfl (cond_app (a88l0 x0 x1 x2 x3 x4 x5 x6 x7 x8 x9 x10 x11 x12) _ rfl (cond_app (a88l0 x0 x1 x2 x3 x4 x5 x6 x7 x8 x9 x10 x11 x12) _ rfl rfl))) rfl) (cond_app (a88l0 x0 x1 x2 x3 x4 x5 x6 x7 x8 x9 x10 x11 x12) _ (cond_app (a88l0 x0 x1 x2 x3 x4 x5 x6 x7 x8 x9 x10 x11 x12) _ (cond_app (a88l0 x0 x1 x2 x3 x4 x5 x6 x7 x8 x9 x10 x11 x12) _ rfl (cond_app (a88l0 x0 x1 x2 x3 x4 x5 x6 x7 x8 x9 x10 x11 x12) _ rfl (cond_app (a88l0 x0 x1 x2 x3 x4 x5 x6 x7 x8 x9 x10 x11 x12) _ rfl rfl))) rfl) rfl))))))) rfl)) (fun h3 => (cond_both (a88l0 x0 x1 x2 x3 x4 x5 x6 x7 x8 x9 x10 x11 x12) _ (fun h4 => (cond_both (a88l0 x0 x1 x2 x3 x4 x5 x6 x7 x8 x9 x10 x11 x12) _ (fun h5 => (cond_t (ev_and2 h5) (cond_app (a88l0 x0 x1 x2 x3 x4 x5 x6 x7 x8 x9 x10 x11 x12) _ (cond_app (a88l0 x0 x1 x2 x3 x4 x5 x6 x7 x8 x9 x10 x11 x12) _ rfl (cond_app (a88l0 x0 x1 x2 x3 x4 x5 x6 x7 x8 x9 x10 x11 x12) _ rfl (cond_app (a88l0 x0 x1 x2 x3 x4 x5 x6 x7 x8 x9 x10 x11 x12) _ rfl rfl))) rfl))) (fun h5 => rfl))) (fun h4 => (cond_both (a88l0 x0 x1 x2 x3 x4 x5 x6 x7 x8 x9 x10 x11 x12) _ (fun h5 => (cond_both (a88l0 x0 x1 x2 x3 x4 x5 x6 x7 x8 x9 x10 x11 x12) _ (fun h6 => (cond_both (a88l0 x0 x1 x2 x3 x4 x5 x6 x7 x8 x9 x10 x11 x12) _ (fun h7 => (cond_both (a88l0 x0 x1 x2 x3 x4 x5 x6 x7 x8 x9 x10 x11 x12) _ (fun h8 => (cond_both (a88l0 x0 x1 x2 x3 x4 x5 x6 x7 x8 x9 x10 x11 x12) _ (fun h9 => (cond_both (a88l0 x0 x1 x2 x3 x4 x5 x6 x7 x8 x9 x10 x11 x12) _ (fun h10 => (cond_t (ev_and2 h10) (cond_app (a88l0 x0 x1 x2 x3 x4 x5 x6 x7 x8 x9 x10 x11 x12) _ rfl (cond_app (a88l0 x0 x1 x2 x3 x4 x5 x6 x7 x8 x9 x10 x11 x12) _ rfl (cond_app (a88l0 x0 x1 x2 x3 x4 x5 x6 x7 x8 x9 x10 x11 x12) _ rfl rfl))))) (fun h10 => rfl))) (fun h9 => rfl))) (fun h8 => rfl))) (fun h7 => rfl))) (fun h6 => (cond_app (a88l0 x0 x1 x2 x3 x4 x5 x6 x7 x8 x9 x10 x11 x12) _ (cond_app (a88l0 x0 x1 x2 x3 x4 x5 x6 x7 x8 x9 x10 x11 x12) _ (cond_app (a88l0 x0 x1 x2 x3 x4 x5 x6 x7 x8 x9 x10 x11 x12) _ (cond_app (a88l0 x0 x1 x2 x3 x4 x5 x6 x7 x8 x9 x10 x11 x12) _ rfl (cond_app (a88l0 x0 x1 x2 x3 x4 x5 x6 x7 x8 x9 x10 x11 x12) _ rfl (cond_app (a88l0 x0 x1 x2 x3 x4 x5 x6 x7 x8 x9 x10 x11 x12) _ rfl rfl))) rfl) rfl) rfl)))) (fun h5 => rfl)))))))))) (fun h1 => rfl))) (fun h0 => rfl)))
set_option maxRecDepth 100000 in
set_option maxHeartbeats 4000000 in
theorem qm88l0 : ∀ m, SumKOk Try.prog (loopN Try.f88 0) 95 [2, 3, 5, 9, 10, 20, 21, 22] [9] (q88l0 m) := by
  intro m
  induction m with
  | zero =>
    intro vals s x h1 h2 h3
    unfold q88l0 at h3; split at h3
    · rename_i h; split at h3
      · rename_i hc; obtain ⟨rfl, rfl, rfl, rfl, rfl, rfl, rfl, rfl⟩ := hc; exact absurd h3 (by simp [r88l0, firstT, Nat.beq])
      · exact noQ_ok _ _ _ h1 h2 h3
    · exact noQ_ok _ _ _ h1 h2 h3
  | succ m ih =>
    intro vals s x h1 h2 h3
    unfold q88l0 at h3; split at h3
    · rename_i h; split at h3
      · rename_i hc; obtain ⟨rfl, rfl, rfl, rfl, rfl, rfl, rfl, rfl⟩ := hc; exact sum_step ok67 extOk mixed ((lfOkF_no _ _).inner (by kernel_rfl)) ih h1 h2 h (e88l0 m _ _ _ _ _ _ _ _ _ _ _ _ _) rfl h3
      · exact noQ_ok _ _ _ h1 h2 h3
    · exact noQ_ok _ _ _ h1 h2 h3
noncomputable def Q88l0 : SumK := fun vals s => q88l0 (fuelOf vals s.h) vals s
theorem qok88l0 : SumKOk Try.prog (loopN Try.f88 0) 95 [2, 3, 5, 9, 10, 20, 21, 22] [9] Q88l0 := fuel_ok qm88l0 fuelOf
noncomputable def L88_1 : LoopT := addL noL 4 ([2, 3, 5, 9, 10, 20, 21, 22], [10]) (sumK 95 [2, 3, 5, 9, 10, 20, 21, 22] [9] Q88l0)
theorem lok88_1 : LfOkF Try.prog L88_1 Try.f88 := lfOkF_add (lfOkF_no _ _) qok88l0 (by kernel_rfl) (by kernel_rfl) (by kernel_rfl)

/-- impl.runOn[impl.Span] -/
noncomputable def r88 (x0 x1 x2 x3 x4 x5 x6 x7 : Nat) (x8 : List ByteArray) (x9 : List (List Int)) : Nat × List (List Int) :=
 let c178 := (r88l0 (1000 + x9.length + 0 + 0) ((x9.length : Nat) : Int) 0 x0 x1 x2 x3 x4 x5 x6 x7 ([] : List (List Int)) ([] : List (List Int)) x9)
 cond (Nat.beq (c178.1) 0)
  (0, ([] : List (List Int)))
  (cond (Nat.beq (c178.1) 1)
   (0, (c178.2))
   (cond (Nat.beq (c178.1) 2)
    (0, ([] : List (List Int)))
    (1, [])))
noncomputable def a88 (x0 x1 x2 x3 x4 x5 x6 x7 : Nat) (x8 : List ByteArray) (x9 : List (List Int)) (p : Nat × List (List Int)) : Res := firstT [((Nat.beq (p.1) 0), wsl 2, ⟨[⟨true, (some (.strs x8))⟩, ⟨true, (some (.tab [.int .i8, .int .i16, .fl .f32] x9))⟩, ⟨true, (some (.tab [.fl .f32, .fl .f32] (p.2)))⟩], 2, []⟩)]
noncomputable def w88 (x0 x1 x2 x3 x4 x5 x6 x7 : Nat) (x8 : List ByteArray) (x9 : List (List Int)) : Res :=
 let c178 := (r88l0 (1000 + x9.length + 0 + 0) ((x9.length : Nat) : Int) 0 x0 x1 x2 x3 x4 x5 x6 x7 ([] : List (List Int)) ([] : List (List Int)) x9)
 (cond (Nat.beq (c178.1) 0)
 (a88 x0 x1 x2 x3 x4 x5 x6 x7 x8 x9 (0, ([] : List (List Int))))
 (cond (Nat.beq (c178.1) 1)
  (a88 x0 x1 x2 x3 x4 x5 x6 x7 x8 x9 (0, (c178.2)))
  (cond (Nat.beq (c178.1) 2)
   (a88 x0 x1 x2 x3 x4 x5 x6 x7 x8 x9 (0, ([] : List (List Int))))
   none)))
set_option maxRecDepth 100000 in
set_option maxHeartbeats 4000000 in
theorem e88 (x0 x1 x2 x3 x4 x5 x6 x7 : Nat) (x8 : List ByteArray) (x9 : List (List Int)) : evFn Try.prog ext T67 L88_1 200 Try.f88 [.agg #[wsl 0, wsl 1], .agg #[.float .f32 x0, .float .f32 x1, .float .f32 x2, .float .f32 x3, .float .f32 x4, .float .f32 x5, .float .f32 x6, .float .f32 x7], .func (.func 89) #[] #[], .func (.func 90) #[] #[]] ⟨[⟨true, (some (.strs x8))⟩, ⟨true, (some (.tab [.int .i8, .int .i16, .fl .f32] x9))⟩], 2, []⟩ = firstT [((Nat.beq ((r88 x0 x1 x2 x3 x4 x5 x6 x7 x8 x9).1) 0), wsl 2, ⟨[⟨true, (some (.strs x8))⟩, ⟨true, (some (.tab [.int .i8, .int .i16, .fl .f32] x9))⟩, ⟨true, (some (.tab [.fl .f32, .fl .f32] ((r88 x0 x1 x2 x3 x4 x5 x6 x7 x8 x9).2)))⟩], 2, []⟩)] :=
 (show evFn Try.prog ext T67 L88_1 200 Try.f88 [.agg #[wsl 0, wsl 1], .agg #[.float .f32 x0, .float .f32 x1, .float .f32 x2, .float .f32 x3, .float .f32 x4, .float .f32 x5, .float .f32 x6, .float .f32 x7], .func (.func 89) #[] #[], .func (.func 90) #[] #[]] ⟨[⟨true, (some (.strs x8))⟩, ⟨true, (some (.tab [.int .i8, .int .i16, .fl .f32] x9))⟩], 2, []⟩ = w88 x0 x1 x2 x3 x4 x5 x6 x7 x8 x9 from by kernel_rfl).trans
 (show w88 x0 x1 x2 x3 x4 x5 x6 x7 x8 x9 = a88 x0 x1 x2 x3 x4 x5 x6 x7 x8 x9 (r88 x0 x1 x2 x3 x4 x5 x6 x7 x8 x9) from by unfold w88 r88; exact (cond_app (a88 x0 x1 x2 x3 x4 x5 x6 x7 x8 x9) _ rfl (cond_app (a88 x0 x1 x2 x3 x4 x5 x6 x7 x8 x9) _ rfl (cond_app (a88 x0 x1 x2 x3 x4 x5 x6 x7 x8 x9) _ rfl rfl))))
noncomputable def s88 (args : List Value) (s : St) : List (Bool × Value × St) :=
 match args, s.h with
 | [.agg ⟨[.iface f0 .nilIface, .iface f1 .nilIface]⟩, .agg ⟨[.float .f32 x0, .float .f32 x1, .float .f32 x2, .float .f32 x3, .float .f32 x4, .float .f32 x5, .float .f32 x6, .float .f32 x7]⟩, .func (.func f2) ⟨[]⟩ ⟨[]⟩, .func (.func f3) ⟨[]⟩ ⟨[]⟩], [⟨true, some (.strs x8)⟩, ⟨true, some (.tab [.int .i8, .int .i16, .fl .f32] x9)⟩] => if f0 = 0 ∧ f1 = 1 ∧ f2 = 89 ∧ f3 = 90 then [((Nat.beq ((r88 x0 x1 x2 x3 x4 x5 x6 x7 x8 x9).1) 0), wsl 2, ⟨[⟨true, (some (.strs x8))⟩, ⟨true, (some (.tab [.int .i8, .int .i16, .fl .f32] x9))⟩, ⟨true, (some (.tab [.fl .f32, .fl .f32] ((r88 x0 x1 x2 x3 x4 x5 x6 x7 x8 x9).2)))⟩], 2, []⟩)] else T67 88 args s
 | _, _ => T67 88 args s
noncomputable def T68 : CallF := addF T67 88 s88
set_option maxRecDepth 100000 in
set_option maxHeartbeats 4000000 in
theorem ok68 : CfOk Try.prog T68 := by
  refine cfOk_add ok67 fun args s r s' h1 h2 h3 => ?_
  unfold s88 at h3; split at h3
  · rename_i h; split at h3
    · rename_i hc; obtain ⟨rfl, rfl, rfl, rfl⟩ := hc; exact callOk ok67 Try.func88 h1 h2 h lok88_1.body (e88 _ _ _ _ _ _ _ _ _ _) rfl h3
    · exact ok67 _ _ _ _ _ h1 h2 h3
  · exact ok67 _ _ _ _ _ h1 h2 h3

/-- impl.prove -/
noncomputable def r66 (x0 x1 x2 x3 x4 x5 x6 x7 : Nat) (x8 : List ByteArray) (x9 : List (List Int)) : Nat × List (List Int) :=
 cond (Nat.beq ((r88 x0 x1 x2 x3 x4 x5 x6 x7 x8 x9).1) 0)
  (0, ((r88 x0 x1 x2 x3 x4 x5 x6 x7 x8 x9).2))
  (1, [])
noncomputable def a66 (x0 x1 x2 x3 x4 x5 x6 x7 : Nat) (x8 : List ByteArray) (x9 : List (List Int)) (p : Nat × List (List Int)) : Res := firstT [((Nat.beq (p.1) 0), wsl 2, ⟨[⟨true, (some (.strs x8))⟩, ⟨true, (some (.tab [.int .i8, .int .i16, .fl .f32] x9))⟩, ⟨true, (some (.tab [.fl .f32, .fl .f32] (p.2)))⟩], 2, []⟩)]
noncomputable def w66 (x0 x1 x2 x3 x4 x5 x6 x7 : Nat) (x8 : List ByteArray) (x9 : List (List Int)) : Res :=
 (cond (Nat.beq ((r88 x0 x1 x2 x3 x4 x5 x6 x7 x8 x9).1) 0)
 (a66 x0 x1 x2 x3 x4 x5 x6 x7 x8 x9 (0, ((r88 x0 x1 x2 x3 x4 x5 x6 x7 x8 x9).2)))
 none)
set_option maxRecDepth 100000 in
set_option maxHeartbeats 4000000 in
theorem e66 (x0 x1 x2 x3 x4 x5 x6 x7 : Nat) (x8 : List ByteArray) (x9 : List (List Int)) : evFn Try.prog ext T68 noL 200 Try.f66 [.agg #[wsl 0, wsl 1], .agg #[.float .f32 x0, .float .f32 x1, .float .f32 x2, .float .f32 x3, .float .f32 x4, .float .f32 x5, .float .f32 x6, .float .f32 x7]] ⟨[⟨true, (some (.strs x8))⟩, ⟨true, (some (.tab [.int .i8, .int .i16, .fl .f32] x9))⟩], 2, []⟩ = firstT [((Nat.beq ((r66 x0 x1 x2 x3 x4 x5 x6 x7 x8 x9).1) 0), wsl 2, ⟨[⟨true, (some (.strs x8))⟩, ⟨true, (some (.tab [.int .i8, .int .i16, .fl .f32] x9))⟩, ⟨true, (some (.tab [.fl .f32, .fl .f32] ((r66 x0 x1 x2 x3 x4 x5 x6 x7 x8 x9).2)))⟩], 2, []⟩)] :=
 (show evFn Try.prog ext T68 noL 200 Try.f66 [.agg #[wsl 0, wsl 1], .agg #[.float .f32 x0, .float .f32 x1, .float .f32 x2, .float .f32 x3, .float .f32 x4, .float .f32 x5, .float .f32 x6, .float .f32 x7]] ⟨[⟨true, (some (.strs x8))⟩, ⟨true, (some (.tab [.int .i8, .int .i16, .fl .f32] x9))⟩], 2, []⟩ = w66 x0 x1 x2 x3 x4 x5 x6 x7 x8 x9 from by kernel_rfl).trans
 (show w66 x0 x1 x2 x3 x4 x5 x6 x7 x8 x9 = a66 x0 x1 x2 x3 x4 x5 x6 x7 x8 x9 (r66 x0 x1 x2 x3 x4 x5 x6 x7 x8 x9) from by unfold w66 r66; exact (cond_app (a66 x0 x1 x2 x3 x4 x5 x6 x7 x8 x9) _ rfl rfl))
noncomputable def s66 (args : List Value) (s : St) : List (Bool × Value × St) :=
 match args, s.h with
 | [.agg ⟨[.iface f0 .nilIface, .iface f1 .nilIface]⟩, .agg ⟨[.float .f32 x0, .float .f32 x1, .float .f32 x2, .float .f32 x3, .float .f32 x4, .float .f32 x5, .float .f32 x6, .float .f32 x7]⟩], [⟨true, some (.strs x8)⟩, ⟨true, some (.tab [.int .i8, .int .i16, .fl .f32] x9)⟩] => if f0 = 0 ∧ f1 = 1 then [((Nat.beq ((r66 x0 x1 x2 x3 x4 x5 x6 x7 x8 x9).1) 0), wsl 2, ⟨[⟨true, (some (.strs x8))⟩, ⟨true, (some (.tab [.int .i8, .int .i16, .fl .f32] x9))⟩, ⟨true, (some (.tab [.fl .f32, .fl .f32] ((r66 x0 x1 x2 x3 x4 x5 x6 x7 x8 x9).2)))⟩], 2, []⟩)] else T68 66 args s
 | _, _ => T68 66 args s
noncomputable def T69 : CallF := addF T68 66 s66
set_option maxRecDepth 100000 in
set_option maxHeartbeats 4000000 in
theorem ok69 : CfOk Try.prog T69 := by
  refine cfOk_add ok68 fun args s r s' h1 h2 h3 => ?_
  unfold s66 at h3; split at h3
  · rename_i h; split at h3
    · rename_i hc; obtain ⟨rfl, rfl⟩ := hc; exact callOk ok68 Try.func66 h1 h2 h (lfOkF_no _ _).body (e66 _ _ _ _ _ _ _ _ _ _) rfl h3
    · exact ok68 _ _ _ _ _ h1 h2 h3
  · exact ok68 _ _ _ _ _ h1 h2 h3

/-- impl.within -/
noncomputable def r65 (x0 x1 x2 x3 : Nat) : Bool :=
 cond (fgt .f32 x0 x2 || feq .f32 x0 x2)
  ((flt .f32 x1 x3 || feq .f32 x1 x3))
  (false)
noncomputable def a65 (x0 x1 x2 x3 : Nat) (p : Bool) : Res := firstT [(true, .bool p, st0)]
noncomputable def w65 (x0 x1 x2 x3 : Nat) : Res :=
 (cond (fgt .f32 x0 x2 || feq .f32 x0 x2)
 (a65 x0 x1 x2 x3 ((flt .f32 x1 x3 || feq .f32 x1 x3)))
 (a65 x0 x1 x2 x3 (false)))
set_option maxRecDepth 100000 in
set_option maxHeartbeats 4000000 in
theorem e65 (x0 x1 x2 x3 : Nat) : evFn Try.prog ext T69 noL 200 Try.f65 [.agg #[.float .f32 x0, .float .f32 x1], .agg #[.float .f32 x2, .float .f32 x3]] st0 = firstT [(true, .bool (r65 x0 x1 x2 x3), st0)] :=
 (show evFn Try.prog ext T69 noL 200 Try.f65 [.agg #[.float .f32 x0, .float .f32 x1], .agg #[.float .f32 x2, .float .f32 x3]] st0 = w65 x0 x1 x2 x3 from by kernel_rfl).trans
 (show w65 x0 x1 x2 x3 = a65 x0 x1 x2 x3 (r65 x0 x1 x2 x3) from by unfold w65 r65; exact (cond_app (a65 x0 x1 x2 x3) _ rfl rfl))
noncomputable def s65 (args : List Value) (s : St) : List (Bool × Value × St) :=
 match args, s.h with
 | [.agg ⟨[.float .f32 x0, .float .f32 x1]⟩, .agg ⟨[.float .f32 x2, .float .f32 x3]⟩], [] => [(true, .bool (r65 x0 x1 x2 x3), st0)]
 | _, _ => T69 65 args s
noncomputable def T70 : CallF := addF T69 65 s65
set_option maxRecDepth 100000 in
set_option maxHeartbeats 4000000 in
theorem ok70 : CfOk Try.prog T70 := by
  refine cfOk_add ok69 fun args s r s' h1 h2 h3 => ?_
  unfold s65 at h3; split at h3
  · rename_i h; exact callOk ok69 Try.func65 h1 h2 h (lfOkF_no _ _).body (e65 _ _ _ _) rfl h3
  · exact ok69 _ _ _ _ _ h1 h2 h3

/-- impl.IsProved -/
noncomputable def r30 (x0 x1 x2 x3 x4 x5 x6 x7 : Nat) (x8 : ByteArray) (x9 x10 : Nat) (x11 : List ByteArray) (x12 : List (List Int)) : Nat × Bool × Int :=
 let c179 := (r65 (Int.toNat ((((r66 x0 x1 x2 x3 x4 x5 x6 x7 x11 x12).2).getD (Int.toNat ((r56b x8 x11).2)) []).getD 0 0)) (Int.toNat ((((r66 x0 x1 x2 x3 x4 x5 x6 x7 x11 x12).2).getD (Int.toNat ((r56b x8 x11).2)) []).getD 1 0)) x9 x10)
 cond (Nat.beq ((r16 x11 x12).1) 0)
  (cond (!((r16 x11 x12).2))
   (0, false, 1)
   (cond (!(r63 x9 x10))
    (0, false, 1)
    (cond (!(r64 x0 x1 x2 x3 x4 x5 x6 x7))
     (0, false, 2)
     (cond (Nat.beq ((r56b x8 x11).1) 0)
      (cond (decide ((((r56b x8 x11).2) : Int) < 0))
       (0, false, 6)
       (cond (Nat.beq ((r66 x0 x1 x2 x3 x4 x5 x6 x7 x11 x12).1) 0)
        (cond ((decide ((0 : Int) ≤ ((r56b x8 x11).2))) && (Nat.blt (Int.toNat ((r56b x8 x11).2)) (((r66 x0 x1 x2 x3 x4 x5 x6 x7 x11 x12).2).length)))
         (0, c179, 0)
         (1, false, 0))
        (1, false, 0)))
      (1, false, 0)))))
  (1, false, 0)
noncomputable def a30 (x0 x1 x2 x3 x4 x5 x6 x7 : Nat) (x8 : ByteArray) (x9 x10 : Nat) (x11 : List ByteArray) (x12 : List (List Int)) (p : Nat × Bool × Int) : Res := firstT [((Nat.beq (p.1) 0), .tuple #[.bool (p.2.1), .int .i64 (p.2.2)], ⟨[⟨true, (some (.strs x11))⟩, ⟨true, (some (.tab [.int .i8, .int .i16, .fl .f32] x12))⟩], 2, []⟩)]
noncomputable def w30 (x0 x1 x2 x3 x4 x5 x6 x7 : Nat) (x8 : ByteArray) (x9 x10 : Nat) (x11 : List ByteArray) (x12 : List (List Int)) : Res :=
 let c179 := (r65 (Int.toNat ((((r66 x0 x1 x2 x3 x4 x5 x6 x7 x11 x12).2).getD (Int.toNat ((r56b x8 x11).2)) []).getD 0 0)) (Int.toNat ((((r66 x0 x1 x2 x3 x4 x5 x6 x7 x11 x12).2).getD (Int.toNat ((r56b x8 x11).2)) []).getD 1 0)) x9 x10)
 (cond (Nat.beq ((r16 x11 x12).1) 0)
 (cond (!((r16 x11 x12).2))
  (a30 x0 x1 x2 x3 x4 x5 x6 x7 x8 x9 x10 x11 x12 (0, false, 1))
  (cond (!(r63 x9 x10))
   (a30 x0 x1 x2 x3 x4 x5 x6 x7 x8 x9 x10 x11 x12 (0, false, 1))
   (cond (!(r64 x0 x1 x2 x3 x4 x5 x6 x7))
    (a30 x0 x1 x2 x3 x4 x5 x6 x7 x8 x9 x10 x11 x12 (0, false, 2))
    (cond (Nat.beq ((r56b x8 x11).1) 0)
     (cond (decide ((((r56b x8 x11).2) : Int) < 0))
      (a30 x0 x1 x2 x3 x4 x5 x6 x7 x8 x9 x10 x11 x12 (0, false, 6))
      (cond (Nat.beq ((r66 x0 x1 x2 x3 x4 x5 x6 x7 x11 x12).1) 0)
       (cond ((decide ((0 : Int) ≤ ((r56b x8 x11).2))) && (Nat.blt (Int.toNat ((r56b x8 x11).2)) (((r66 x0 x1 x2 x3 x4 x5 x6 x7 x11 x12).2).length)))
        (cond (Nat.blt (Int.toNat ((r56b x8 x11).2)) (((r66 x0 x1 x2 x3 x4 x5 x6 x7 x11 x12).2).length))
         (a30 x0 x1 x2 x3 x4 x5 x6 x7 x8 x9 x10 x11 x12 (0, c179, 0))
         none)
        none)
       none))
     none))))
 none)
set_option maxRecDepth 100000 in
set_option maxHeartbeats 4000000 in
theorem e30 (x0 x1 x2 x3 x4 x5 x6 x7 : Nat) (x8 : ByteArray) (x9 x10 : Nat) (x11 : List ByteArray) (x12 : List (List Int)) : evFn Try.prog ext T70 noL 200 Try.f30 [.agg #[wsl 0, wsl 1], .agg #[.float .f32 x0, .float .f32 x1, .float .f32 x2, .float .f32 x3, .float .f32 x4, .float .f32 x5, .float .f32 x6, .float .f32 x7], .string x8, .agg #[.float .f32 x9, .float .f32 x10]] ⟨[⟨true, (some (.strs x11))⟩, ⟨true, (some (.tab [.int .i8, .int .i16, .fl .f32] x12))⟩], 2, []⟩ = firstT [((Nat.beq ((r30 x0 x1 x2 x3 x4 x5 x6 x7 x8 x9 x10 x11 x12).1) 0), .tuple #[.bool ((r30 x0 x1 x2 x3 x4 x5 x6 x7 x8 x9 x10 x11 x12).2.1), .int .i64 ((r30 x0 x1 x2 x3 x4 x5 x6 x7 x8 x9 x10 x11 x12).2.2)], ⟨[⟨true, (some (.strs x11))⟩, ⟨true, (some (.tab [.int .i8, .int .i16, .fl .f32] x12))⟩], 2, []⟩)] :=
 (show evFn Try.prog ext T70 noL 200 Try.f30 [.agg #[wsl 0, wsl 1], .agg #[.float .f32 x0, .float .f32 x1, .float .f32 x2, .float .f32 x3, .float .f32 x4, .float .f32 x5, .float .f32 x6, .float .f32 x7], .string x8, .agg #[.float .f32 x9, .float .f32 x10]] ⟨[⟨true, (some (.strs x11))⟩, ⟨true, (some (.tab [.int .i8, .int .i16, .fl .f32] x12))⟩], 2, []⟩ = w30 x0 x1 x2 x3 x4 x5 x6 x7 x8 x9 x10 x11 x12 from by kernel_rfl).trans
 (show w30 x0 x1 x2 x3 x4 x5 x6 x7 x8 x9 x10 x11 x12 = a30 x0 x1 x2 x3 x4 x5 x6 x7 x8 x9 x10 x11 x12 (r30 x0 x1 x2 x3 x4 x5 x6 x7 x8 x9 x10 x11 x12) from by unfold w30 r30; exact (cond_both (a30 x0 x1 x2 x3 x4 x5 x6 x7 x8 x9 x10 x11 x12) _ (fun h0 => (cond_both (a30 x0 x1 x2 x3 x4 x5 x6 x7 x8 x9 x10 x11 x12) _ (fun h1 => rfl) (fun h1 => (cond_both (a30 x0 x1 x2 x3 x4 x5 x6 x7 x8 x9 x10 x11 x12) _ (fun h2 => rfl) (fun h2 => (cond_both (a30 x0 x1 x2 x3 x4 x5 x6 x7 x8 x9 x10 x11 x12) _ (fun h3 => rfl) (fun h3 => (cond_both (a30 x0 x1 x2 x3 x4 x5 x6 x7 x8 x9 x10 x11 x12) _ (fun h4 => (cond_both (a30 x0 x1 x2 x3 x4 x5 x6 x7 x8 x9 x10 x11 x12) _ (fun h5 => rfl) (fun h5 => (cond_both (a30 x0 x1 x2 x3 x4 x5 x6 x7 x8 x9 x10 x11 x12) _ (fun h6 => (cond_both (a30 x0 x1 x2 x3 x4 x5 x6 x7 x8 x9 x10 x11 x12) _ (fun h7 => (cond_t (ev_and2 h7) rfl)) (fun h7 => rfl))) (fun h6 => rfl))))) (fun h4 => rfl))))))))) (fun h0 => rfl)))
noncomputable def s30 (args : List Value) (s : St) : List (Bool × Value × St) :=
 match args, s.h with
 | [.agg ⟨[.iface f0 .nilIface, .iface f1 .nilIface]⟩, .agg ⟨[.float .f32 x0, .float .f32 x1, .float .f32 x2, .float .f32 x3, .float .f32 x4, .float .f32 x5, .float .f32 x6, .float .f32 x7]⟩, .string x8, .agg ⟨[.float .f32 x9, .float .f32 x10]⟩], [⟨true, some (.strs x11)⟩, ⟨true, some (.tab [.int .i8, .int .i16, .fl .f32] x12)⟩] => if f0 = 0 ∧ f1 = 1 then [((Nat.beq ((r30 x0 x1 x2 x3 x4 x5 x6 x7 x8 x9 x10 x11 x12).1) 0), .tuple #[.bool ((r30 x0 x1 x2 x3 x4 x5 x6 x7 x8 x9 x10 x11 x12).2.1), .int .i64 ((r30 x0 x1 x2 x3 x4 x5 x6 x7 x8 x9 x10 x11 x12).2.2)], ⟨[⟨true, (some (.strs x11))⟩, ⟨true, (some (.tab [.int .i8, .int .i16, .fl .f32] x12))⟩], 2, []⟩)] else T70 30 args s
 | _, _ => T70 30 args s
noncomputable def T71 : CallF := addF T70 30 s30
set_option maxRecDepth 100000 in
set_option maxHeartbeats 4000000 in
theorem ok71 : CfOk Try.prog T71 := by
  refine cfOk_add ok70 fun args s r s' h1 h2 h3 => ?_
  unfold s30 at h3; split at h3
  · rename_i h; split at h3
    · rename_i hc; obtain ⟨rfl, rfl⟩ := hc; exact callOk ok70 Try.func30 h1 h2 h (lfOkF_no _ _).body (e30 _ _ _ _ _ _ _ _ _ _ _ _ _) rfl h3
    · exact ok70 _ _ _ _ _ h1 h2 h3
  · exact ok70 _ _ _ _ _ h1 h2 h3

/-- laws.eqStringS, loop 0: one round -/
noncomputable def b46l0 (ih : Int → List ByteArray → List ByteArray → Nat) (x0 : Int) (x1 x2 : List ByteArray) : Nat :=
 cond (decide ((x0 : Int) < ((x1.length : Nat) : Int)))
  (cond ((decide ((0 : Int) ≤ x0)) && (Nat.blt (Int.toNat x0) x1.length))
   (cond ((decide ((0 : Int) ≤ x0)) && (Nat.blt (Int.toNat x0) x2.length))
    (cond (!((x1.getD (Int.toNat x0) .empty).toList == (x2.getD (Int.toNat x0) .empty).toList))
     (0)
     (ih (IntKind.i64.wrap (x0 + 1)) x1 x2))
    (2))
   (2))
  (1)
noncomputable def r46l0 : Nat → Int → List ByteArray → List ByteArray → Nat
 | 0 => fun _ _ _ => (2)
 | m + 1 => b46l0 (r46l0 m)
noncomputable def a46l0 (x0 : Int) (x1 x2 : List ByteArray) (p : Nat) : Option (Fin' × List Value × St) := firstT ([((Nat.beq p 0), .ret, [.bool false], ⟨[⟨true, (some (.strs x1))⟩, ⟨true, (some (.strs x2))⟩], 2, []⟩), ((Nat.beq p 1), .exit 0, [anyV], ⟨[⟨true, (some (.strs x1))⟩, ⟨true, (some (.strs x2))⟩], 2, []⟩)].map fun (b, x) => (b, (x.1, frameOf 26 [4] x.2.1, x.2.2)))
noncomputable def u46l0 (x0 : Int) (x1 x2 : List ByteArray) (p : Nat) : Option (Fin' × List Value × St) := alts ([((Nat.beq p 0), .ret, [.bool false], ⟨[⟨true, (some (.strs x1))⟩, ⟨true, (some (.strs x2))⟩], 2, []⟩), ((Nat.beq p 1), .exit 0, [anyV], ⟨[⟨true, (some (.strs x1))⟩, ⟨true, (some (.strs x2))⟩], 2, []⟩)].map fun (b, x) => (b, (x.1, frameOf 26 [4] x.2.1, x.2.2))) some
theorem v46l0 (x0 : Int) (x1 x2 : List ByteArray) (p : Nat) : u46l0 x0 x1 x2 p = a46l0 x0 x1 x2 p := alts_first _
noncomputable def q46l0 (m : Nat) : SumK := fun vals s =>
 match vals, s.h with
 | [.iface f0 .nilIface, .iface f1 .nilIface, .int .i64 x0], [⟨true, some (.strs x1)⟩, ⟨true, some (.strs x2)⟩] => if f0 = 0 ∧ f1 = 1 then [((Nat.beq (r46l0 m x0 x1 x2) 0), .ret, [.bool false], ⟨[⟨true, (some (.strs x1))⟩, ⟨true, (some (.strs x2))⟩], 2, []⟩), ((Nat.beq (r46l0 m x0 x1 x2) 1), .exit 0, [anyV], ⟨[⟨true, (some (.strs x1))⟩, ⟨true, (some (.strs x2))⟩], 2, []⟩)] else noQ vals s
 | _, _ => noQ vals s
noncomputable def w46l0 (ih : Int → List ByteArray → List ByteArray → Nat) (x0 : Int) (x1 x2 : List ByteArray) : Option (Fin' × List Value × St) :=
 (cond (decide ((x0 : Int) < ((x1.length : Nat) : Int)))
 (cond ((decide ((0 : Int) ≤ x0)) && (Nat.blt (Int.toNat x0) x1.length))
  (cond (Nat.blt (Int.toNat x0) x1.length)
   (cond ((decide ((0 : Int) ≤ x0)) && (Nat.blt (Int.toNat x0) x2.length))
    (cond (Nat.blt (Int.toNat x0) x2.length)
     (cond (!((x1.getD (Int.toNat x0) .empty).toList == (x2.getD (Int.toNat x0) .empty).toList))
      (a46l0 x0 x1 x2 (0))
      (u46l0 x0 x1 x2 (ih (IntKind.i64.wrap (x0 + 1)) x1 x2)))
     none)
    none)
   none)
  none)
 (a46l0 x0 x1 x2 (1)))
set_option maxRecDepth 100000 in
set_option maxHeartbeats 4000000 in
theorem e46l0 (m : Nat) (x0 : Int) (x1 x2 : List ByteArray) : evC Try.prog ext T71 noL 200 (loopN Try.f46 0) (loopTail ([0, 1, 5], []) [4] [] (sumK 26 [0, 1, 5] [4] (q46l0 m))) (frameOf 26 [0, 1, 5] [wsl 0, wsl 1, .int .i64 x0]) ⟨[⟨true, (some (.strs x1))⟩, ⟨true, (some (.strs x2))⟩], 2, []⟩ = firstT ([((Nat.beq (r46l0 (m + 1) x0 x1 x2) 0), .ret, [.bool false], ⟨[⟨true, (some (.strs x1))⟩, ⟨true, (some (.strs x2))⟩], 2, []⟩), ((Nat.beq (r46l0 (m + 1) x0 x1 x2) 1), .exit 0, [anyV], ⟨[⟨true, (some (.strs x1))⟩, ⟨true, (some (.strs x2))⟩], 2, []⟩)].map fun (b, x) => (b, (x.1, frameOf 26 [4] x.2.1, x.2.2))) :=
 (show evC Try.prog ext T71 noL 200 (loopN Try.f46 0) (loopTail ([0, 1, 5], []) [4] [] (sumK 26 [0, 1, 5] [4] (q46l0 m))) (frameOf 26 [0, 1, 5] [wsl 0, wsl 1, .int .i64 x0]) ⟨[⟨true, (some (.strs x1))⟩, ⟨true, (some (.strs x2))⟩], 2, []⟩ = w46l0 (r46l0 m) x0 x1 x2 from by kernel_rfl).trans
 (show w46l0 (r46l0 m) x0 x1 x2 = a46l0 x0 x1 x2 (r46l0 (m + 1) x0 x1 x2) from by unfold w46l0; show _ = a46l0 x0 x1 x2 (b46l0 (r46l0 m) x0 x1 x2); unfold b46l0; exact (cond_both (a46l0 x0 x1 x2) _ (fun h0 => (cond_both (a46l0 x0 x1 x2) _ (fun h1 => (cond_t (ev_and2 h1) (cond_both (a46l0 x0 x1 x2) _ (fun h2 => (cond_t (ev_and2 h2) (cond_app (a46l0 x0 x1 x2) _ rfl (v46l0 x0 x1 x2 ((r46l0 m) (IntKind.i64.wrap (x0 + 1)) x1 x2))))) (fun h2 => rfl)))) (fun h1 => rfl))) (fun h0 => rfl)))
set_option maxRecDepth 100000 in
set_option maxHeartbeats 4000000 in
theorem qm46l0 : ∀ m, SumKOk Try.prog (loopN Try.f46 0) 26 [0, 1, 5] [4] (q46l0 m) := by
  intro m
  induction m with
  | zero =>
    intro vals s x h1 h2 h3
    unfold q46l0 at h3; split at h3
    · rename_i h; split at h3
      · rename_i hc; obtain ⟨rfl, rfl⟩ := hc; exact absurd h3 (by simp [r46l0, firstT, Nat.beq])
      · exact noQ_ok _ _ _ h1 h2 h3
    · exact noQ_ok _ _ _ h1 h2 h3
  | succ m ih =>
    intro vals s x h1 h2 h3
    unfold q46l0 at h3; split at h3
    · rename_i h; split at h3
      · rename_i hc; obtain ⟨rfl, rfl⟩ := hc; exact sum_step ok71 extOk mixed ((lfOkF_no _ _).inner (by kernel_rfl)) ih h1 h2 h (e46l0 m _ _ _) rfl h3
      · exact noQ_ok _ _ _ h1 h2 h3
    · exact noQ_ok _ _ _ h1 h2 h3
noncomputable def Q46l0 : SumK := fun vals s => q46l0 (fuelOf vals s.h) vals s
theorem qok46l0 : SumKOk Try.prog (loopN Try.f46 0) 26 [0, 1, 5] [4] Q46l0 := fuel_ok qm46l0 fuelOf
noncomputable def L46_1 : LoopT := addL noL 5 ([0, 1, 5], []) (sumK 26 [0, 1, 5] [4] Q46l0)
theorem lok46_1 : LfOkF Try.prog L46_1 Try.f46 := lfOkF_add (lfOkF_no _ _) qok46l0 (by kernel_rfl) (by kernel_rfl) (by kernel_rfl)

/-- laws.eqStringS -/
noncomputable def r46 (x0 x1 : List ByteArray) : Nat × Bool :=
 cond ((((x0.length : Nat) : Int) : Int) != ((x1.length : Nat) : Int))
  (0, false)
  (cond (Nat.beq (r46l0 (1000 + x1.length + x0.length) 0 x0 x1) 0)
   (0, false)
   (cond (Nat.beq (r46l0 (1000 + x1.length + x0.length) 0 x0 x1) 1)
    (0, true)
    (1, false)))
noncomputable def a46 (x0 x1 : List ByteArray) (p : Nat × Bool) : Res := firstT [((Nat.beq (p.1) 0), .bool (p.2), ⟨[⟨true, (some (.strs x0))⟩, ⟨true, (some (.strs x1))⟩], 2, []⟩)]
noncomputable def w46 (x0 x1 : List ByteArray) : Res :=
 (cond ((((x0.length : Nat) : Int) : Int) != ((x1.length : Nat) : Int))
 (a46 x0 x1 (0, false))
 (cond (Nat.beq (r46l0 (1000 + x1.length + x0.length) 0 x0 x1) 0)
  (a46 x0 x1 (0, false))
  (cond (Nat.beq (r46l0 (1000 + x1.length + x0.length) 0 x0 x1) 1)
   (a46 x0 x1 (0, true))
   none)))
set_option maxRecDepth 100000 in
set_option maxHeartbeats 4000000 in
theorem e46 (x0 x1 : List ByteArray) : evFn Try.prog ext T71 L46_1 200 Try.f46 [wsl 0, wsl 1] ⟨[⟨true, (some (.strs x0))⟩, ⟨true, (some (.strs x1))⟩], 2, []⟩ = firstT [((Nat.beq ((r46 x0 x1).1) 0), .bool ((r46 x0 x1).2), ⟨[⟨true, (some (.strs x0))⟩, ⟨true, (some (.strs x1))⟩], 2, []⟩)] :=
 (show evFn Try.prog ext T71 L46_1 200 Try.f46 [wsl 0, wsl 1] ⟨[⟨true, (some (.strs x0))⟩, ⟨true, (some (.strs x1))⟩], 2, []⟩ = w46 x0 x1 from by kernel_rfl).trans
 (show w46 x0 x1 = a46 x0 x1 (r46 x0 x1) from by unfold w46 r46; exact (cond_app (a46 x0 x1) _ rfl (cond_app (a46 x0 x1) _ rfl (cond_app (a46 x0 x1) _ rfl rfl))))
noncomputable def s46 (args : List Value) (s : St) : List (Bool × Value × St) :=
 match args, s.h with
 | [.iface f0 .nilIface, .iface f1 .nilIface], [⟨true, some (.strs x0)⟩, ⟨true, some (.strs x1)⟩] => if f0 = 0 ∧ f1 = 1 then [((Nat.beq ((r46 x0 x1).1) 0), .bool ((r46 x0 x1).2), ⟨[⟨true, (some (.strs x0))⟩, ⟨true, (some (.strs x1))⟩], 2, []⟩)] else T71 46 args s
 | _, _ => T71 46 args s
noncomputable def T72 : CallF := addF T71 46 s46
set_option maxRecDepth 100000 in
set_option maxHeartbeats 4000000 in
theorem ok72 : CfOk Try.prog T72 := by
  refine cfOk_add ok71 fun args s r s' h1 h2 h3 => ?_
  unfold s46 at h3; split at h3
  · rename_i h; split at h3
    · rename_i hc; obtain ⟨rfl, rfl⟩ := hc; exact callOk ok71 Try.func46 h1 h2 h lok46_1.body (e46 _ _) rfl h3
    · exact ok71 _ _ _ _ _ h1 h2 h3
  · exact ok71 _ _ _ _ _ h1 h2 h3

/-- laws.sameFloat -/
noncomputable def r20 (x0 x1 : Nat) : Bool :=
 cond (!feq .f64 x0 x0)
  ((!feq .f64 x1 x1))
  (cond (!feq .f64 x1 x1)
   (false)
   (cond (feq .f64 x0 0)
    (cond (feq .f64 x1 0)
     (((fgt .f64 (fdiv .f64 4607182418800017408 x0) 0) == (fgt .f64 (fdiv .f64 4607182418800017408 x1) 0)))
     ((feq .f64 x0 x1)))
    ((feq .f64 x0 x1))))
noncomputable def a20 (x0 x1 : Nat) (p : Bool) : Res := firstT [(true, .bool p, st0)]
noncomputable def w20 (x0 x1 : Nat) : Res :=
 (cond (!feq .f64 x0 x0)
 (cond (!feq .f64 x0 x0)
  (a20 x0 x1 ((!feq .f64 x1 x1)))
  (some (.bool false, st0)))
 (cond (!feq .f64 x1 x1)
  (cond (!feq .f64 x0 x0)
   (some (.bool (!feq .f64 x1 x1), st0))
   (a20 x0 x1 (false)))
  (cond (feq .f64 x0 0)
   (cond (feq .f64 x1 0)
    (a20 x0 x1 (((fgt .f64 (fdiv .f64 4607182418800017408 x0) 0) == (fgt .f64 (fdiv .f64 4607182418800017408 x1) 0))))
    (a20 x0 x1 ((feq .f64 x0 x1))))
   (a20 x0 x1 ((feq .f64 x0 x1))))))
set_option maxRecDepth 100000 in
set_option maxHeartbeats 4000000 in
theorem e20 (x0 x1 : Nat) : evFn Try.prog ext T72 noL 200 Try.f20 [.float .f64 x0, .float .f64 x1] st0 = firstT [(true, .bool (r20 x0 x1), st0)] :=
 (show evFn Try.prog ext T72 noL 200 Try.f20 [.float .f64 x0, .float .f64 x1] st0 = w20 x0 x1 from by kernel_rfl).trans
 (show w20 x0 x1 = a20 x0 x1 (r20 x0 x1) from by unfold w20 r20; exact (cond_both (a20 x0 x1) _ (fun h0 => (cond_t (ev_not1 (ev_nott h0)) rfl)) (fun h0 => (cond_both (a20 x0 x1) _ (fun h1 => (cond_f (ev_not0 (ev_notf h0)) rfl)) (fun h1 => (cond_app (a20 x0 x1) _ (cond_app (a20 x0 x1) _ rfl rfl) rfl))))))
noncomputable def s20 (args : List Value) (s : St) : List (Bool × Value × St) :=
 match args, s.h with
 | [.float .f64 x0, .float .f64 x1], [] => [(true, .bool (r20 x0 x1), st0)]
 | _, _ => T72 20 args s
noncomputable def T73 : CallF := addF T72 20 s20
set_option maxRecDepth 100000 in
set_option maxHeartbeats 4000000 in
theorem ok73 : CfOk Try.prog T73 := by
  refine cfOk_add ok72 fun args s r s' h1 h2 h3 => ?_
  unfold s20 at h3; split at h3
  · rename_i h; exact callOk ok72 Try.func20 h1 h2 h (lfOkF_no _ _).body (e20 _ _) rfl h3
  · exact ok72 _ _ _ _ _ h1 h2 h3

/-- laws.eqOp -/
noncomputable def r74 (x0 x1 : Int) (x2 : Nat) (x3 x4 : Int) (x5 : Nat) : Bool :=
 cond ((x0 : Int) != x3)
  (false)
  (cond ((x1 : Int) != x4)
   (false)
   (cond (!(r20 (widen x2) (widen x5)))
    (false)
    (true)))
noncomputable def a74 (x0 x1 : Int) (x2 : Nat) (x3 x4 : Int) (x5 : Nat) (p : Bool) : Res := firstT [(true, .bool p, st0)]
noncomputable def w74 (x0 x1 : Int) (x2 : Nat) (x3 x4 : Int) (x5 : Nat) : Res :=
 (cond ((x0 : Int) != x3)
 (a74 x0 x1 x2 x3 x4 x5 (false))
 (cond ((x1 : Int) != x4)
  (a74 x0 x1 x2 x3 x4 x5 (false))
  (cond (!(r20 (widen x2) (widen x5)))
   (a74 x0 x1 x2 x3 x4 x5 (false))
   (a74 x0 x1 x2 x3 x4 x5 (true)))))
set_option maxRecDepth 100000 in
set_option maxHeartbeats 4000000 in
theorem e74 (x0 x1 : Int) (x2 : Nat) (x3 x4 : Int) (x5 : Nat) : evFn Try.prog ext T73 noL 200 Try.f74 [.agg #[.int .i8 x0, .int .i16 x1, .float .f32 x2], .agg #[.int .i8 x3, .int .i16 x4, .float .f32 x5]] st0 = firstT [(true, .bool (r74 x0 x1 x2 x3 x4 x5), st0)] :=
 (show evFn Try.prog ext T73 noL 200 Try.f74 [.agg #[.int .i8 x0, .int .i16 x1, .float .f32 x2], .agg #[.int .i8 x3, .int .i16 x4, .float .f32 x5]] st0 = w74 x0 x1 x2 x3 x4 x5 from by kernel_rfl).trans
 (show w74 x0 x1 x2 x3 x4 x5 = a74 x0 x1 x2 x3 x4 x5 (r74 x0 x1 x2 x3 x4 x5) from by unfold w74 r74; exact (cond_app (a74 x0 x1 x2 x3 x4 x5) _ rfl (cond_app (a74 x0 x1 x2 x3 x4 x5) _ rfl (cond_app (a74 x0 x1 x2 x3 x4 x5) _ rfl rfl))))
noncomputable def s74 (args : List Value) (s : St) : List (Bool × Value × St) :=
 match args, s.h with
 | [.agg ⟨[.int .i8 x0, .int .i16 x1, .float .f32 x2]⟩, .agg ⟨[.int .i8 x3, .int .i16 x4, .float .f32 x5]⟩], [] => [(true, .bool (r74 x0 x1 x2 x3 x4 x5), st0)]
 | _, _ => T73 74 args s
noncomputable def T74 : CallF := addF T73 74 s74
set_option maxRecDepth 100000 in
set_option maxHeartbeats 4000000 in
theorem ok74 : CfOk Try.prog T74 := by
  refine cfOk_add ok73 fun args s r s' h1 h2 h3 => ?_
  unfold s74 at h3; split at h3
  · rename_i h; exact callOk ok73 Try.func74 h1 h2 h (lfOkF_no _ _).body (e74 _ _ _ _ _ _) rfl h3
  · exact ok73 _ _ _ _ _ h1 h2 h3

/-- laws.eqOpS, loop 0: one round -/
noncomputable def b47l0 (ih : Int → List (List Int) → List (List Int) → Nat) (x0 : Int) (x1 x2 : List (List Int)) : Nat :=
 let c196 := (r74 ((x1.getD (Int.toNat x0) []).getD 0 0) ((x1.getD (Int.toNat x0) []).getD 1 0) (Int.toNat ((x1.getD (Int.toNat x0) []).getD 2 0)) ((x2.getD (Int.toNat x0) []).getD 0 0) ((x2.getD (Int.toNat x0) []).getD 1 0) (Int.toNat ((x2.getD (Int.toNat x0) []).getD 2 0)))
 cond (decide ((x0 : Int) < ((x1.length : Nat) : Int)))
  (cond ((decide ((0 : Int) ≤ x0)) && (Nat.blt (Int.toNat x0) x1.length))
   (cond ((decide ((0 : Int) ≤ x0)) && (Nat.blt (Int.toNat x0) x2.length))
    (cond (!c196)
     (0)
     (ih (IntKind.i64.wrap (x0 + 1)) x1 x2))
    (2))
   (2))
  (1)
noncomputable def r47l0 : Nat → Int → List (List Int) → List (List Int) → Nat
 | 0 => fun _ _ _ => (2)
 | m + 1 => b47l0 (r47l0 m)
noncomputable def a47l0 (x0 : Int) (x1 x2 : List (List Int)) (p : Nat) : Option (Fin' × List Value × St) := firstT ([((Nat.beq p 0), .ret, [.bool false], ⟨[⟨true, (some (.tab [.int .i8, .int .i16, .fl .f32] x1))⟩, ⟨true, (some (.tab [.int .i8, .int .i16, .fl .f32] x2))⟩], 2, []⟩), ((Nat.beq p 1), .exit 0, [anyV], ⟨[⟨true, (some (.tab [.int .i8, .int .i16, .fl .f32] x1))⟩, ⟨true, (some (.tab [.int .i8, .int .i16, .fl .f32] x2))⟩], 2, []⟩)].map fun (b, x) => (b, (x.1, frameOf 27 [4] x.2.1, x.2.2)))
noncomputable def u47l0 (x0 : Int) (x1 x2 : List (List Int)) (p : Nat) : Option (Fin' × List Value × St) := alts ([((Nat.beq p 0), .ret, [.bool false], ⟨[⟨true, (some (.tab [.int .i8, .int .i16, .fl .f32] x1))⟩, ⟨true, (some (.tab [.int .i8, .int .i16, .fl .f32] x2))⟩], 2, []⟩), ((Nat.beq p 1), .exit 0, [anyV], ⟨[⟨true, (some (.tab [.int .i8, .int .i16, .fl .f32] x1))⟩, ⟨true, (some (.tab [.int .i8, .int .i16, .fl .f32] x2))⟩], 2, []⟩)].map fun (b, x) => (b, (x.1, frameOf 27 [4] x.2.1, x.2.2))) some
theorem v47l0 (x0 : Int) (x1 x2 : List (List Int)) (p : Nat) : u47l0 x0 x1 x2 p = a47l0 x0 x1 x2 p := alts_first _
noncomputable def q47l0 (m : Nat) : SumK := fun vals s =>
 match vals, s.h with
 | [.iface f0 .nilIface, .iface f1 .nilIface, .int .i64 x0], [⟨true, some (.tab [.int .i8, .int .i16, .fl .f32] x1)⟩, ⟨true, some (.tab [.int .i8, .int .i16, .fl .f32] x2)⟩] => if f0 = 0 ∧ f1 = 1 then [((Nat.beq (r47l0 m x0 x1 x2) 0), .ret, [.bool false], ⟨[⟨true, (some (.tab [.int .i8, .int .i16, .fl .f32] x1))⟩, ⟨true, (some (.tab [.int .i8, .int .i16, .fl .f32] x2))⟩], 2, []⟩), ((Nat.beq (r47l0 m x0 x1 x2) 1), .exit 0, [anyV], ⟨[⟨true, (some (.tab [.int .i8, .int .i16, .fl .f32] x1))⟩, ⟨true, (some (.tab [.int .i8, .int .i16, .fl .f32] x2))⟩], 2, []⟩)] else noQ vals s
 | _, _ => noQ vals s
noncomputable def w47l0 (ih : Int → List (List Int) → List (List Int) → Nat) (x0 : Int) (x1 x2 : List (List Int)) : Option (Fin' × List Value × St) :=
 let c196 := (r74 ((x1.getD (Int.toNat x0) []).getD 0 0) ((x1.getD (Int.toNat x0) []).getD 1 0) (Int.toNat ((x1.getD (Int.toNat x0) []).getD 2 0)) ((x2.getD (Int.toNat x0) []).getD 0 0) ((x2.getD (Int.toNat x0) []).getD 1 0) (Int.toNat ((x2.getD (Int.toNat x0) []).getD 2 0)))
 (cond (decide ((x0 : Int) < ((x1.length : Nat) : Int)))
 (cond ((decide ((0 : Int) ≤ x0)) && (Nat.blt (Int.toNat x0) x1.length))
  (cond (Nat.blt (Int.toNat x0) x1.length)
   (cond ((decide ((0 : Int) ≤ x0)) && (Nat.blt (Int.toNat x0) x2.length))
    (cond (Nat.blt (Int.toNat x0) x2.length)
     (cond (!c196)
      (a47l0 x0 x1 x2 (0))
      (u47l0 x0 x1 x2 (ih (IntKind.i64.wrap (x0 + 1)) x1 x2)))
     none)
    none)
   none)
  none)
 (a47l0 x0 x1 x2 (1)))
set_option maxRecDepth 100000 in
set_option maxHeartbeats 4000000 in
theorem e47l0 (m : Nat) (x0 : Int) (x1 x2 : List (List Int)) : evC Try.prog ext T74 noL 200 (loopN Try.f47 0) (loopTail ([0, 1, 5], []) [4] [] (sumK 27 [0, 1, 5] [4] (q47l0 m))) (frameOf 27 [0, 1, 5] [wsl 0, wsl 1, .int .i64 x0]) ⟨[⟨true, (some (.tab [.int .i8, .int .i16, .fl .f32] x1))⟩, ⟨true, (some (.tab [.int .i8, .int .i16, .fl .f32] x2))⟩], 2, []⟩ = firstT ([((Nat.beq (r47l0 (m + 1) x0 x1 x2) 0), .ret, [.bool false], ⟨[⟨true, (some (.tab [.int .i8, .int .i16, .fl .f32] x1))⟩, ⟨true, (some (.tab [.int .i8, .int .i16, .fl .f32] x2))⟩], 2, []⟩), ((Nat.beq (r47l0 (m + 1) x0 x1 x2) 1), .exit 0, [anyV], ⟨[⟨true, (some (.tab [.int .i8, .int .i16, .fl .f32] x1))⟩, ⟨true, (some (.tab [.int .i8, .int .i16, .fl .f32] x2))⟩], 2, []⟩)].map fun (b, x) => (b, (x.1, frameOf 27 [4] x.2.1, x.2.2))) :=
 (show evC Try.prog ext T74 noL 200 (loopN Try.f47 0) (loopTail ([0, 1, 5], []) [4] [] (sumK 27 [0, 1, 5] [4] (q47l0 m))) (frameOf 27 [0, 1, 5] [wsl 0, wsl 1, .int .i64 x0]) ⟨[⟨true, (some (.tab [.int .i8, .int .i16, .fl .f32] x1))⟩, ⟨true, (some (.tab [.int .i8, .int .i16, .fl .f32] x2))⟩], 2, []⟩ = w47l0 (r47l0 m) x0 x1 x2 from by kernel_rfl).trans
 (show w47l0 (r47l0 m) x0 x1 x2 = a47l0 x0 x1 x2 (r47l0 (m + 1) x0 x1 x2) from by unfold w47l0; show _ = a47l0 x0 x1 x2 (b47l0 (r47l0 m) x0 x1 x2); unfold b47l0; exact (cond_both (a47l0 x0 x1 x2) _ (fun h0 => (cond_both (a47l0 x0 x1 x2) _ (fun h1 => (cond_t (ev_and2 h1) (cond_both (a47l0 x0 x1 x2) _ (fun h2 => (cond_t (ev_and2 h2) (cond_app (a47l0 x0 x1 x2) _ rfl (v47l0 x0 x1 x2 ((r47l0 m) (IntKind.i64.wrap (x0 + 1)) x1 x2))))) (fun h2 => rfl)))) (fun h1 => rfl))) (fun h0 => rfl)))
set_option maxRecDepth 100000 in
set_option maxHeartbeats 4000000 in
theorem qm47l0 : ∀ m, SumKOk Try.prog (loopN Try.f47 0) 27 [0, 1, 5] [4] (q47l0 m) := by
  intro m
  induction m with
  | zero =>
    intro vals s x h1 h2 h3
    unfold q47l0 at h3; split at h3
    · rename_i h; split at h3
      · rename_i hc; obtain ⟨rfl, rfl⟩ := hc; exact absurd h3 (by simp [r47l0, firstT, Nat.beq])
      · exact noQ_ok _ _ _ h1 h2 h3
    · exact noQ_ok _ _ _ h1 h2 h3
  | succ m ih =>
    intro vals s x h1 h2 h3
    unfold q47l0 at h3; split at h3
    · rename_i h; split at h3
      · rename_i hc; obtain ⟨rfl, rfl⟩ := hc; exact sum_step ok74 extOk mixed ((lfOkF_no _ _).inner (by kernel_rfl)) ih h1 h2 h (e47l0 m _ _ _) rfl h3
      · exact noQ_ok _ _ _ h1 h2 h3
    · exact noQ_ok _ _ _ h1 h2 h3
noncomputable def Q47l0 : SumK := fun vals s => q47l0 (fuelOf vals s.h) vals s
theorem qok47l0 : SumKOk Try.prog (loopN Try.f47 0) 27 [0, 1, 5] [4] Q47l0 := fuel_ok qm47l0 fuelOf
noncomputable def L47_1 : LoopT := addL noL 5 ([0, 1, 5], []) (sumK 27 [0, 1, 5] [4] Q47l0)
theorem lok47_1 : LfOkF Try.prog L47_1 Try.f47 := lfOkF_add (lfOkF_no _ _) qok47l0 (by kernel_rfl) (by kernel_rfl) (by kernel_rfl)

/-- laws.eqOpS -/
noncomputable def r47 (x0 x1 : List (List Int)) : Nat × Bool :=
 cond ((((x0.length : Nat) : Int) : Int) != ((x1.length : Nat) : Int))
  (0, false)
  (cond (Nat.beq (r47l0 (1000 + x1.length + x0.length) 0 x0 x1) 0)
   (0, false)
   (cond (Nat.beq (r47l0 (1000 + x1.length + x0.length) 0 x0 x1) 1)
    (0, true)
    (1, false)))
noncomputable def a47 (x0 x1 : List (List Int)) (p : Nat × Bool) : Res := firstT [((Nat.beq (p.1) 0), .bool (p.2), ⟨[⟨true, (some (.tab [.int .i8, .int .i16, .fl .f32] x0))⟩, ⟨true, (some (.tab [.int .i8, .int .i16, .fl .f32] x1))⟩], 2, []⟩)]
noncomputable def w47 (x0 x1 : List (List Int)) : Res :=
 (cond ((((x0.length : Nat) : Int) : Int) != ((x1.length : Nat) : Int))
 (a47 x0 x1 (0, false))
 (cond (Nat.beq (r47l0 (1000 + x1.length + x0.length) 0 x0 x1) 0)
  (a47 x0 x1 (0, false))
  (cond (Nat.beq (r47l0 (1000 + x1.length + x0.length) 0 x0 x1) 1)
   (a47 x0 x1 (0, true))
   none)))
set_option maxRecDepth 100000 in
set_option maxHeartbeats 4000000 in
theorem e47 (x0 x1 : List (List Int)) : evFn Try.prog ext T74 L47_1 200 Try.f47 [wsl 0, wsl 1] ⟨[⟨true, (some (.tab [.int .i8, .int .i16, .fl .f32] x0))⟩, ⟨true, (some (.tab [.int .i8, .int .i16, .fl .f32] x1))⟩], 2, []⟩ = firstT [((Nat.beq ((r47 x0 x1).1) 0), .bool ((r47 x0 x1).2), ⟨[⟨true, (some (.tab [.int .i8, .int .i16, .fl .f32] x0))⟩, ⟨true, (some (.tab [.int .i8, .int .i16, .fl .f32] x1))⟩], 2, []⟩)] :=
 (show evFn Try.prog ext T74 L47_1 200 Try.f47 [wsl 0, wsl 1] ⟨[⟨true, (some (.tab [.int .i8, .int .i16, .fl .f32] x0))⟩, ⟨true, (some (.tab [.int .i8, .int .i16, .fl .f32] x1))⟩], 2, []⟩ = w47 x0 x1 from by kernel_rfl).trans
 (show w47 x0 x1 = a47 x0 x1 (r47 x0 x1) from by unfold w47 r47; exact (cond_app (a47 x0 x1) _ rfl (cond_app (a47 x0 x1) _ rfl (cond_app (a47 x0 x1) _ rfl rfl))))
noncomputable def s47 (args : List Value) (s : St) : List (Bool × Value × St) :=
 match args, s.h with
 | [.iface f0 .nilIface, .iface f1 .nilIface], [⟨true, some (.tab [.int .i8, .int .i16, .fl .f32] x0)⟩, ⟨true, some (.tab [.int .i8, .int .i16, .fl .f32] x1)⟩] => if f0 = 0 ∧ f1 = 1 then [((Nat.beq ((r47 x0 x1).1) 0), .bool ((r47 x0 x1).2), ⟨[⟨true, (some (.tab [.int .i8, .int .i16, .fl .f32] x0))⟩, ⟨true, (some (.tab [.int .i8, .int .i16, .fl .f32] x1))⟩], 2, []⟩)] else T74 47 args s
 | _, _ => T74 47 args s
noncomputable def T75 : CallF := addF T74 47 s47
set_option maxRecDepth 100000 in
set_option maxHeartbeats 4000000 in
theorem ok75 : CfOk Try.prog T75 := by
  refine cfOk_add ok74 fun args s r s' h1 h2 h3 => ?_
  unfold s47 at h3; split at h3
  · rename_i h; split at h3
    · rename_i hc; obtain ⟨rfl, rfl⟩ := hc; exact callOk ok74 Try.func47 h1 h2 h lok47_1.body (e47 _ _) rfl h3
    · exact ok74 _ _ _ _ _ h1 h2 h3
  · exact ok74 _ _ _ _ _ h1 h2 h3

/-- laws.eqProgram -/
noncomputable def r14 (x0 : List ByteArray) (x1 : List (List Int)) (x2 : List ByteArray) (x3 : List (List Int)) : Nat × Bool :=
 cond (Nat.beq ((r46 x0 x2).1) 0)
  (cond (!((r46 x0 x2).2))
   (0, false)
   (cond (Nat.beq ((r47 x1 x3).1) 0)
    (cond (!((r47 x1 x3).2))
     (0, false)
     (0, true))
    (1, false)))
  (1, false)
noncomputable def a14 (x0 : List ByteArray) (x1 : List (List Int)) (x2 : List ByteArray) (x3 : List (List Int)) (p : Nat × Bool) : Res := firstT [((Nat.beq (p.1) 0), .bool (p.2), ⟨[⟨true, (some (.strs x0))⟩, ⟨true, (some (.tab [.int .i8, .int .i16, .fl .f32] x1))⟩, ⟨true, (some (.strs x2))⟩, ⟨true, (some (.tab [.int .i8, .int .i16, .fl .f32] x3))⟩], 4, []⟩)]
noncomputable def w14 (x0 : List ByteArray) (x1 : List (List Int)) (x2 : List ByteArray) (x3 : List (List Int)) : Res :=
 (cond (Nat.beq ((r46 x0 x2).1) 0)
 (cond (!((r46 x0 x2).2))
  (a14 x0 x1 x2 x3 (0, false))
  (cond (Nat.beq ((r47 x1 x3).1) 0)
   (cond (!((r47 x1 x3).2))
    (a14 x0 x1 x2 x3 (0, false))
    (a14 x0 x1 x2 x3 (0, true)))
   none))
 none)
set_option maxRecDepth 100000 in
set_option maxHeartbeats 4000000 in
theorem e14 (x0 : List ByteArray) (x1 : List (List Int)) (x2 : List ByteArray) (x3 : List (List Int)) : evFn Try.prog ext T75 noL 200 Try.f14 [.agg #[wsl 0, wsl 1], .agg #[wsl 2, wsl 3]] ⟨[⟨true, (some (.strs x0))⟩, ⟨true, (some (.tab [.int .i8, .int .i16, .fl .f32] x1))⟩, ⟨true, (some (.strs x2))⟩, ⟨true, (some (.tab [.int .i8, .int .i16, .fl .f32] x3))⟩], 4, []⟩ = firstT [((Nat.beq ((r14 x0 x1 x2 x3).1) 0), .bool ((r14 x0 x1 x2 x3).2), ⟨[⟨true, (some (.strs x0))⟩, ⟨true, (some (.tab [.int .i8, .int .i16, .fl .f32] x1))⟩, ⟨true, (some (.strs x2))⟩, ⟨true, (some (.tab [.int .i8, .int .i16, .fl .f32] x3))⟩], 4, []⟩)] :=
 (show evFn Try.prog ext T75 noL 200 Try.f14 [.agg #[wsl 0, wsl 1], .agg #[wsl 2, wsl 3]] ⟨[⟨true, (some (.strs x0))⟩, ⟨true, (some (.tab [.int .i8, .int .i16, .fl .f32] x1))⟩, ⟨true, (some (.strs x2))⟩, ⟨true, (some (.tab [.int .i8, .int .i16, .fl .f32] x3))⟩], 4, []⟩ = w14 x0 x1 x2 x3 from by kernel_rfl).trans
 (show w14 x0 x1 x2 x3 = a14 x0 x1 x2 x3 (r14 x0 x1 x2 x3) from by unfold w14 r14; exact (cond_app (a14 x0 x1 x2 x3) _ (cond_app (a14 x0 x1 x2 x3) _ rfl (cond_app (a14 x0 x1 x2 x3) _ (cond_app (a14 x0 x1 x2 x3) _ rfl rfl) rfl)) rfl))
noncomputable def s14 (args : List Value) (s : St) : List (Bool × Value × St) :=
 match args, s.h with
 | [.agg ⟨[.iface f0 .nilIface, .iface f1 .nilIface]⟩, .agg ⟨[.iface f2 .nilIface, .iface f3 .nilIface]⟩], [⟨true, some (.strs x0)⟩, ⟨true, some (.tab [.int .i8, .int .i16, .fl .f32] x1)⟩, ⟨true, some (.strs x2)⟩, ⟨true, some (.tab [.int .i8, .int .i16, .fl .f32] x3)⟩] => if f0 = 0 ∧ f1 = 1 ∧ f2 = 2 ∧ f3 = 3 then [((Nat.beq ((r14 x0 x1 x2 x3).1) 0), .bool ((r14 x0 x1 x2 x3).2), ⟨[⟨true, (some (.strs x0))⟩, ⟨true, (some (.tab [.int .i8, .int .i16, .fl .f32] x1))⟩, ⟨true, (some (.strs x2))⟩, ⟨true, (some (.tab [.int .i8, .int .i16, .fl .f32] x3))⟩], 4, []⟩)] else T75 14 args s
 | _, _ => T75 14 args s
noncomputable def T76 : CallF := addF T75 14 s14
set_option maxRecDepth 100000 in
set_option maxHeartbeats 4000000 in
theorem ok76 : CfOk Try.prog T76 := by
  refine cfOk_add ok75 fun args s r s' h1 h2 h3 => ?_
  unfold s14 at h3; split at h3
  · rename_i h; split at h3
    · rename_i hc; obtain ⟨rfl, rfl, rfl, rfl⟩ := hc; exact callOk ok75 Try.func14 h1 h2 h (lfOkF_no _ _).body (e14 _ _ _ _) rfl h3
    · exact ok75 _ _ _ _ _ h1 h2 h3
  · exact ok75 _ _ _ _ _ h1 h2 h3

/-- laws.FnExactIsProved -/
noncomputable def r7 (x0 x1 x2 x3 x4 x5 x6 x7 : Nat) (x8 : ByteArray) (x9 x10 : Nat) (x11 : List ByteArray) (x12 : List (List Int)) : Nat × Bool :=
 cond (decide (((((x8.size) : Nat) : Int) : Int) > 1048576))
  (0, true)
  (cond (Nat.beq ((r10 1048576 x11 x12).1) 0)
   (cond (decide ((((r10 1048576 x11 x12).2) : Int) < 0))
    (0, true)
    (cond (Nat.beq ((r12 x11 x12).1) 0)
     (cond (Nat.beq ((r27 x0 x1 x2 x3 x4 x5 x6 x7 x8 x9 x10 ((r12 x11 x12).2.1) ((r12 x11 x12).2.2)).1) 0)
      (cond (Nat.beq ((r30 x0 x1 x2 x3 x4 x5 x6 x7 x8 x9 x10 ((r12 x11 x12).2.1) ((r12 x11 x12).2.2)).1) 0)
       (cond (!(((r30 x0 x1 x2 x3 x4 x5 x6 x7 x8 x9 x10 ((r12 x11 x12).2.1) ((r12 x11 x12).2.2)).2.1) == ((r27 x0 x1 x2 x3 x4 x5 x6 x7 x8 x9 x10 ((r12 x11 x12).2.1) ((r12 x11 x12).2.2)).2.1)))
        (0, false)
        (cond ((((r30 x0 x1 x2 x3 x4 x5 x6 x7 x8 x9 x10 ((r12 x11 x12).2.1) ((r12 x11 x12).2.2)).2.2) : Int) != ((r27 x0 x1 x2 x3 x4 x5 x6 x7 x8 x9 x10 ((r12 x11 x12).2.1) ((r12 x11 x12).2.2)).2.2))
         (0, false)
         (cond (Nat.beq ((r14 ((r12 x11 x12).2.1) ((r12 x11 x12).2.2) ((r12 x11 x12).2.1) ((r12 x11 x12).2.2)).1) 0)
          (cond (!((r14 ((r12 x11 x12).2.1) ((r12 x11 x12).2.2) ((r12 x11 x12).2.1) ((r12 x11 x12).2.2)).2))
           (0, false)
           (0, true))
          (1, false))))
       (1, false))
      (1, false))
     (1, false)))
   (1, false))
noncomputable def a7 (x0 x1 x2 x3 x4 x5 x6 x7 : Nat) (x8 : ByteArray) (x9 x10 : Nat) (x11 : List ByteArray) (x12 : List (List Int)) (p : Nat × Bool) : Res := firstT [((Nat.beq (p.1) 0), .bool (p.2), ⟨[⟨false, (some (.strs x11))⟩, ⟨false, (some (.tab [.int .i8, .int .i16, .fl .f32] x12))⟩], 2, []⟩)]
noncomputable def w7 (x0 x1 x2 x3 x4 x5 x6 x7 : Nat) (x8 : ByteArray) (x9 x10 : Nat) (x11 : List ByteArray) (x12 : List (List Int)) : Res :=
 (cond (decide (((((x8.size) : Nat) : Int) : Int) > 1048576))
 (a7 x0 x1 x2 x3 x4 x5 x6 x7 x8 x9 x10 x11 x12 (0, true))
 (cond (Nat.beq ((r10 1048576 x11 x12).1) 0)
  (cond (decide ((((r10 1048576 x11 x12).2) : Int) < 0))
   (a7 x0 x1 x2 x3 x4 x5 x6 x7 x8 x9 x10 x11 x12 (0, true))
   (cond (Nat.beq ((r12 x11 x12).1) 0)
    (cond (Nat.beq ((r27 x0 x1 x2 x3 x4 x5 x6 x7 x8 x9 x10 ((r12 x11 x12).2.1) ((r12 x11 x12).2.2)).1) 0)
     (cond (Nat.beq ((r12 x11 x12).1) 0)
      (cond (Nat.beq ((r30 x0 x1 x2 x3 x4 x5 x6 x7 x8 x9 x10 ((r12 x11 x12).2.1) ((r12 x11 x12).2.2)).1) 0)
       (cond (!(((r30 x0 x1 x2 x3 x4 x5 x6 x7 x8 x9 x10 ((r12 x11 x12).2.1) ((r12 x11 x12).2.2)).2.1) == ((r27 x0 x1 x2 x3 x4 x5 x6 x7 x8 x9 x10 ((r12 x11 x12).2.1) ((r12 x11 x12).2.2)).2.1)))
        (a7 x0 x1 x2 x3 x4 x5 x6 x7 x8 x9 x10 x11 x12 (0, false))
        (cond ((((r30 x0 x1 x2 x3 x4 x5 x6 x7 x8 x9 x10 ((r12 x11 x12).2.1) ((r12 x11 x12).2.2)).2.2) : Int) != ((r27 x0 x1 x2 x3 x4 x5 x6 x7 x8 x9 x10 ((r12 x11 x12).2.1) ((r12 x11 x12).2.2)).2.2))
         (a7 x0 x1 x2 x3 x4 x5 x6 x7 x8 x9 x10 x11 x12 (0, false))
         (cond (Nat.beq ((r12 x11 x12).1) 0)
          (cond (Nat.beq ((r14 ((r12 x11 x12).2.1) ((r12 x11 x12).2.2) ((r12 x11 x12).2.1) ((r12 x11 x12).2.2)).1) 0)
           (cond (!((r14 ((r12 x11 x12).2.1) ((r12 x11 x12).2.2) ((r12 x11 x12).2.1) ((r12 x11 x12).2.2)).2))
            (a7 x0 x1 x2 x3 x4 x5 x6 x7 x8 x9 x10 x11 x12 (0, false))
            (a7 x0 x1 x2 x3 x4 x5 x6 x7 x8 x9 x10 x11 x12 (0, true)))
           none)
          none)))
       none)
      none)
     none)
    none))
  none))
set_option maxRecDepth 100000 in
set_option maxHeartbeats 4000000 in
theorem e7 (x0 x1 x2 x3 x4 x5 x6 x7 : Nat) (x8 : ByteArray) (x9 x10 : Nat) (x11 : List ByteArray) (x12 : List (List Int)) : evFn Try.prog ext T76 noL 200 Try.f7 [.agg #[wsl 0, wsl 1], .agg #[.float .f32 x0, .float .f32 x1, .float .f32 x2, .float .f32 x3, .float .f32 x4, .float .f32 x5, .float .f32 x6, .float .f32 x7], .string x8, .agg #[.float .f32 x9, .float .f32 x10]] ⟨[⟨false, (some (.strs x11))⟩, ⟨false, (some (.tab [.int .i8, .int .i16, .fl .f32] x12))⟩], 2, []⟩ = firstT [((Nat.beq ((r7 x0 x1 x2 x3 x4 x5 x6 x7 x8 x9 x10 x11 x12).1) 0), .bool ((r7 x0 x1 x2 x3 x4 x5 x6 x7 x8 x9 x10 x11 x12).2), ⟨[⟨false, (some (.strs x11))⟩, ⟨false, (some (.tab [.int .i8, .int .i16, .fl .f32] x12))⟩], 2, []⟩)] :=
 (show evFn Try.prog ext T76 noL 200 Try.f7 [.agg #[wsl 0, wsl 1], .agg #[.float .f32 x0, .float .f32 x1, .float .f32 x2, .float .f32 x3, .float .f32 x4, .float .f32 x5, .float .f32 x6, .float .f32 x7], .string x8, .agg #[.float .f32 x9, .float .f32 x10]] ⟨[⟨false, (some (.strs x11))⟩, ⟨false, (some (.tab [.int .i8, .int .i16, .fl .f32] x12))⟩], 2, []⟩ = w7 x0 x1 x2 x3 x4 x5 x6 x7 x8 x9 x10 x11 x12 from by kernel_rfl).trans
 (show w7 x0 x1 x2 x3 x4 x5 x6 x7 x8 x9 x10 x11 x12 = a7 x0 x1 x2 x3 x4 x5 x6 x7 x8 x9 x10 x11 x12 (r7 x0 x1 x2 x3 x4 x5 x6 x7 x8 x9 x10 x11 x12) from by unfold w7 r7; exact (cond_both (a7 x0 x1 x2 x3 x4 x5 x6 x7 x8 x9 x10 x11 x12) _ (fun h0 => rfl) (fun h0 => (cond_both (a7 x0 x1 x2 x3 x4 x5 x6 x7 x8 x9 x10 x11 x12) _ (fun h1 => (cond_both (a7 x0 x1 x2 x3 x4 x5 x6 x7 x8 x9 x10 x11 x12) _ (fun h2 => rfl) (fun h2 => (cond_both (a7 x0 x1 x2 x3 x4 x5 x6 x7 x8 x9 x10 x11 x12) _ (fun h3 => (cond_both (a7 x0 x1 x2 x3 x4 x5 x6 x7 x8 x9 x10 x11 x12) _ (fun h4 => (cond_t h3 (cond_both (a7 x0 x1 x2 x3 x4 x5 x6 x7 x8 x9 x10 x11 x12) _ (fun h5 => (cond_both (a7 x0 x1 x2 x3 x4 x5 x6 x7 x8 x9 x10 x11 x12) _ (fun h6 => rfl) (fun h6 => (cond_both (a7 x0 x1 x2 x3 x4 x5 x6 x7 x8 x9 x10 x11 x12) _ (fun h7 => rfl) (fun h7 => (cond_t h3 (cond_app (a7 x0 x1 x2 x3 x4 x5 x6 x7 x8 x9 x10 x11 x12) _ (cond_app (a7 x0 x1 x2 x3 x4 x5 x6 x7 x8 x9 x10 x11 x12) _ rfl rfl) rfl))))))) (fun h5 => rfl)))) (fun h4 => rfl))) (fun h3 => rfl))))) (fun h1 => rfl)))))
noncomputable def s7 (args : List Value) (s : St) : List (Bool × Value × St) :=
 match args, s.h with
 | [.agg ⟨[.iface f0 .nilIface, .iface f1 .nilIface]⟩, .agg ⟨[.float .f32 x0, .float .f32 x1, .float .f32 x2, .float .f32 x3, .float .f32 x4, .float .f32 x5, .float .f32 x6, .float .f32 x7]⟩, .string x8, .agg ⟨[.float .f32 x9, .float .f32 x10]⟩], [⟨false, some (.strs x11)⟩, ⟨false, some (.tab [.int .i8, .int .i16, .fl .f32] x12)⟩] => if f0 = 0 ∧ f1 = 1 then [((Nat.beq ((r7 x0 x1 x2 x3 x4 x5 x6 x7 x8 x9 x10 x11 x12).1) 0), .bool ((r7 x0 x1 x2 x3 x4 x5 x6 x7 x8 x9 x10 x11 x12).2), ⟨[⟨false, (some (.strs x11))⟩, ⟨false, (some (.tab [.int .i8, .int .i16, .fl .f32] x12))⟩], 2, []⟩)] else T76 7 args s
 | _, _ => T76 7 args s
noncomputable def T77 : CallF := addF T76 7 s7
set_option maxRecDepth 100000 in
set_option maxHeartbeats 4000000 in
theorem ok77 : CfOk Try.prog T77 := by
  refine cfOk_add ok76 fun args s r s' h1 h2 h3 => ?_
  unfold s7 at h3; split at h3
  · rename_i h; split at h3
    · rename_i hc; obtain ⟨rfl, rfl⟩ := hc; exact callOk ok76 Try.func7 h1 h2 h (lfOkF_no _ _).body (e7 _ _ _ _ _ _ _ _ _ _ _ _ _) rfl h3
    · exact ok76 _ _ _ _ _ h1 h2 h3
  · exact ok76 _ _ _ _ _ h1 h2 h3
end Go.Proofs.Ytfclciebpnnieaa
