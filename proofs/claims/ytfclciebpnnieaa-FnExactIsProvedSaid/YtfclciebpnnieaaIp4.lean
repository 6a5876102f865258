/- What the functions that the statements reach answer, part 4. -/
import Derived.Test.YtfclciebpnnieaaIp3
namespace Go.Proofs.Ytfclciebpnnieaa
open Go.Ab
set_option maxHeartbeats 4000000
set_option maxRecDepth 100000

/-- impl.ValidProgram, loop 1: one round -/
noncomputable def b16l1 (ih : Int → Int → Int → Int → List (List Int) → List ByteArray → (Nat × Int × Int × Int × Int)) (x0 x1 x2 x3 : Int) (x4 : List (List Int)) (x5 : List ByteArray) : Nat × Int × Int × Int × Int :=
 cond (decide ((x3 : Int) < x2))
  (cond ((decide ((0 : Int) ≤ x3)) && (Nat.blt (Int.toNat x3) x4.length))
   (cond (decide ((((x4.getD (Int.toNat x3) []).getD 0 0) : Int) < 1))
    (0, x0, x1, 0, 0)
    (cond (decide ((((x4.getD (Int.toNat x3) []).getD 0 0) : Int) > 12))
     (0, x0, x1, 0, 0)
     (cond ((((x4.getD (Int.toNat x3) []).getD 0 0) : Int) == 1)
      (cond (((IntKind.i64.wrap ((x4.getD (Int.toNat x3) []).getD 1 0)) : Int) != 0)
       (0, x0, x1, 0, 0)
       (cond (!(r51 (Int.toNat ((x4.getD (Int.toNat x3) []).getD 2 0))))
        (0, x0, x1, 0, 0)
        (cond (feq .f32 (Int.toNat ((x4.getD (Int.toNat x3) []).getD 2 0)) 0)
         (cond (!(r52 (Int.toNat ((x4.getD (Int.toNat x3) []).getD 2 0))))
          (0, x0, x1, 0, 0)
          (cond ((((x4.getD (Int.toNat x3) []).getD 0 0) : Int) != 1)
           (cond (decide ((x0 : Int) < ((r53 ((x4.getD (Int.toNat x3) []).getD 0 0)).1)))
            (0, x0, x1, 0, 0)
            (cond (decide (((IntKind.i64.wrap (x0 + (IntKind.i64.wrap (((r53 ((x4.getD (Int.toNat x3) []).getD 0 0)).2) - ((r53 ((x4.getD (Int.toNat x3) []).getD 0 0)).1))))) : Int) > 20))
             (0, (IntKind.i64.wrap (x0 + (IntKind.i64.wrap (((r53 ((x4.getD (Int.toNat x3) []).getD 0 0)).2) - ((r53 ((x4.getD (Int.toNat x3) []).getD 0 0)).1))))), x1, 0, 0)
             (cond ((((x4.getD (Int.toNat x3) []).getD 0 0) : Int) == 4)
              (cond (((IntKind.i64.wrap (x0 + (IntKind.i64.wrap (((r53 ((x4.getD (Int.toNat x3) []).getD 0 0)).2) - ((r53 ((x4.getD (Int.toNat x3) []).getD 0 0)).1))))) : Int) != 0)
               (0, (IntKind.i64.wrap (x0 + (IntKind.i64.wrap (((r53 ((x4.getD (Int.toNat x3) []).getD 0 0)).2) - ((r53 ((x4.getD (Int.toNat x3) []).getD 0 0)).1))))), x1, 0, 0)
               (ih (IntKind.i64.wrap (x0 + (IntKind.i64.wrap (((r53 ((x4.getD (Int.toNat x3) []).getD 0 0)).2) - ((r53 ((x4.getD (Int.toNat x3) []).getD 0 0)).1))))) x1 x2 (IntKind.i64.wrap (x3 + 1)) x4 x5))
              (ih (IntKind.i64.wrap (x0 + (IntKind.i64.wrap (((r53 ((x4.getD (Int.toNat x3) []).getD 0 0)).2) - ((r53 ((x4.getD (Int.toNat x3) []).getD 0 0)).1))))) x1 x2 (IntKind.i64.wrap (x3 + 1)) x4 x5))))
           (cond (decide ((x0 : Int) < ((r53 ((x4.getD (Int.toNat x3) []).getD 0 0)).1)))
            (0, x0, x1, 0, 0)
            (cond (decide (((IntKind.i64.wrap (x0 + (IntKind.i64.wrap (((r53 ((x4.getD (Int.toNat x3) []).getD 0 0)).2) - ((r53 ((x4.getD (Int.toNat x3) []).getD 0 0)).1))))) : Int) > 20))
             (0, (IntKind.i64.wrap (x0 + (IntKind.i64.wrap (((r53 ((x4.getD (Int.toNat x3) []).getD 0 0)).2) - ((r53 ((x4.getD (Int.toNat x3) []).getD 0 0)).1))))), x1, 0, 0)
             (cond ((((x4.getD (Int.toNat x3) []).getD 0 0) : Int) == 4)
              (cond (((IntKind.i64.wrap (x0 + (IntKind.i64.wrap (((r53 ((x4.getD (Int.toNat x3) []).getD 0 0)).2) - ((r53 ((x4.getD (Int.toNat x3) []).getD 0 0)).1))))) : Int) != 0)
               (0, (IntKind.i64.wrap (x0 + (IntKind.i64.wrap (((r53 ((x4.getD (Int.toNat x3) []).getD 0 0)).2) - ((r53 ((x4.getD (Int.toNat x3) []).getD 0 0)).1))))), x1, 0, 0)
               (ih (IntKind.i64.wrap (x0 + (IntKind.i64.wrap (((r53 ((x4.getD (Int.toNat x3) []).getD 0 0)).2) - ((r53 ((x4.getD (Int.toNat x3) []).getD 0 0)).1))))) x1 x2 (IntKind.i64.wrap (x3 + 1)) x4 x5))
              (ih (IntKind.i64.wrap (x0 + (IntKind.i64.wrap (((r53 ((x4.getD (Int.toNat x3) []).getD 0 0)).2) - ((r53 ((x4.getD (Int.toNat x3) []).getD 0 0)).1))))) x1 x2 (IntKind.i64.wrap (x3 + 1)) x4 x5))))))
         (cond ((((x4.getD (Int.toNat x3) []).getD 0 0) : Int) != 1)
          (cond (!(r52 (Int.toNat ((x4.getD (Int.toNat x3) []).getD 2 0))))
           (0, x0, x1, 0, 0)
           (cond (decide ((x0 : Int) < ((r53 ((x4.getD (Int.toNat x3) []).getD 0 0)).1)))
            (0, x0, x1, 0, 0)
            (cond (decide (((IntKind.i64.wrap (x0 + (IntKind.i64.wrap (((r53 ((x4.getD (Int.toNat x3) []).getD 0 0)).2) - ((r53 ((x4.getD (Int.toNat x3) []).getD 0 0)).1))))) : Int) > 20))
             (0, (IntKind.i64.wrap (x0 + (IntKind.i64.wrap (((r53 ((x4.getD (Int.toNat x3) []).getD 0 0)).2) - ((r53 ((x4.getD (Int.toNat x3) []).getD 0 0)).1))))), x1, 0, 0)
             (cond ((((x4.getD (Int.toNat x3) []).getD 0 0) : Int) == 4)
              (cond (((IntKind.i64.wrap (x0 + (IntKind.i64.wrap (((r53 ((x4.getD (Int.toNat x3) []).getD 0 0)).2) - ((r53 ((x4.getD (Int.toNat x3) []).getD 0 0)).1))))) : Int) != 0)
               (0, (IntKind.i64.wrap (x0 + (IntKind.i64.wrap (((r53 ((x4.getD (Int.toNat x3) []).getD 0 0)).2) - ((r53 ((x4.getD (Int.toNat x3) []).getD 0 0)).1))))), x1, 0, 0)
               (ih (IntKind.i64.wrap (x0 + (IntKind.i64.wrap (((r53 ((x4.getD (Int.toNat x3) []).getD 0 0)).2) - ((r53 ((x4.getD (Int.toNat x3) []).getD 0 0)).1))))) x1 x2 (IntKind.i64.wrap (x3 + 1)) x4 x5))
              (ih (IntKind.i64.wrap (x0 + (IntKind.i64.wrap (((r53 ((x4.getD (Int.toNat x3) []).getD 0 0)).2) - ((r53 ((x4.getD (Int.toNat x3) []).getD 0 0)).1))))) x1 x2 (IntKind.i64.wrap (x3 + 1)) x4 x5)))))
          (cond (decide ((x0 : Int) < ((r53 ((x4.getD (Int.toNat x3) []).getD 0 0)).1)))
           (0, x0, x1, 0, 0)
           (cond (decide (((IntKind.i64.wrap (x0 + (IntKind.i64.wrap (((r53 ((x4.getD (Int.toNat x3) []).getD 0 0)).2) - ((r53 ((x4.getD (Int.toNat x3) []).getD 0 0)).1))))) : Int) > 20))
            (0, (IntKind.i64.wrap (x0 + (IntKind.i64.wrap (((r53 ((x4.getD (Int.toNat x3) []).getD 0 0)).2) - ((r53 ((x4.getD (Int.toNat x3) []).getD 0 0)).1))))), x1, 0, 0)
            (cond ((((x4.getD (Int.toNat x3) []).getD 0 0) : Int) == 4)
             (cond (((IntKind.i64.wrap (x0 + (IntKind.i64.wrap (((r53 ((x4.getD (Int.toNat x3) []).getD 0 0)).2) - ((r53 ((x4.getD (Int.toNat x3) []).getD 0 0)).1))))) : Int) != 0)
              (0, (IntKind.i64.wrap (x0 + (IntKind.i64.wrap (((r53 ((x4.getD (Int.toNat x3) []).getD 0 0)).2) - ((r53 ((x4.getD (Int.toNat x3) []).getD 0 0)).1))))), x1, 0, 0)
              (ih (IntKind.i64.wrap (x0 + (IntKind.i64.wrap (((r53 ((x4.getD (Int.toNat x3) []).getD 0 0)).2) - ((r53 ((x4.getD (Int.toNat x3) []).getD 0 0)).1))))) x1 x2 (IntKind.i64.wrap (x3 + 1)) x4 x5))
             (ih (IntKind.i64.wrap (x0 + (IntKind.i64.wrap (((r53 ((x4.getD (Int.toNat x3) []).getD 0 0)).2) - ((r53 ((x4.getD (Int.toNat x3) []).getD 0 0)).1))))) x1 x2 (IntKind.i64.wrap (x3 + 1)) x4 x5))))))))
      (cond ((((x4.getD (Int.toNat x3) []).getD 0 0) : Int) == 2)
       (cond (decide (((IntKind.i64.wrap ((x4.getD (Int.toNat x3) []).getD 1 0)) : Int) < 0))
        (0, x0, x1, 0, 0)
        (cond (decide (((IntKind.i64.wrap ((x4.getD (Int.toNat x3) []).getD 1 0)) : Int) ≥ 4))
         (0, x0, x1, 0, 0)
         (cond ((((x4.getD (Int.toNat x3) []).getD 0 0) : Int) != 1)
          (cond (!(r52 (Int.toNat ((x4.getD (Int.toNat x3) []).getD 2 0))))
           (0, x0, x1, 0, 0)
           (cond (decide ((x0 : Int) < ((r53 ((x4.getD (Int.toNat x3) []).getD 0 0)).1)))
            (0, x0, x1, 0, 0)
            (cond (decide (((IntKind.i64.wrap (x0 + (IntKind.i64.wrap (((r53 ((x4.getD (Int.toNat x3) []).getD 0 0)).2) - ((r53 ((x4.getD (Int.toNat x3) []).getD 0 0)).1))))) : Int) > 20))
             (0, (IntKind.i64.wrap (x0 + (IntKind.i64.wrap (((r53 ((x4.getD (Int.toNat x3) []).getD 0 0)).2) - ((r53 ((x4.getD (Int.toNat x3) []).getD 0 0)).1))))), x1, 0, 0)
             (cond ((((x4.getD (Int.toNat x3) []).getD 0 0) : Int) == 4)
              (cond (((IntKind.i64.wrap (x0 + (IntKind.i64.wrap (((r53 ((x4.getD (Int.toNat x3) []).getD 0 0)).2) - ((r53 ((x4.getD (Int.toNat x3) []).getD 0 0)).1))))) : Int) != 0)
               (0, (IntKind.i64.wrap (x0 + (IntKind.i64.wrap (((r53 ((x4.getD (Int.toNat x3) []).getD 0 0)).2) - ((r53 ((x4.getD (Int.toNat x3) []).getD 0 0)).1))))), x1, 0, 0)
               (ih (IntKind.i64.wrap (x0 + (IntKind.i64.wrap (((r53 ((x4.getD (Int.toNat x3) []).getD 0 0)).2) - ((r53 ((x4.getD (Int.toNat x3) []).getD 0 0)).1))))) x1 x2 (IntKind.i64.wrap (x3 + 1)) x4 x5))
              (ih (IntKind.i64.wrap (x0 + (IntKind.i64.wrap (((r53 ((x4.getD (Int.toNat x3) []).getD 0 0)).2) - ((r53 ((x4.getD (Int.toNat x3) []).getD 0 0)).1))))) x1 x2 (IntKind.i64.wrap (x3 + 1)) x4 x5)))))
          (cond (decide ((x0 : Int) < ((r53 ((x4.getD (Int.toNat x3) []).getD 0 0)).1)))
           (0, x0, x1, 0, 0)
           (cond (decide (((IntKind.i64.wrap (x0 + (IntKind.i64.wrap (((r53 ((x4.getD (Int.toNat x3) []).getD 0 0)).2) - ((r53 ((x4.getD (Int.toNat x3) []).getD 0 0)).1))))) : Int) > 20))
            (0, (IntKind.i64.wrap (x0 + (IntKind.i64.wrap (((r53 ((x4.getD (Int.toNat x3) []).getD 0 0)).2) - ((r53 ((x4.getD (Int.toNat x3) []).getD 0 0)).1))))), x1, 0, 0)
            (cond ((((x4.getD (Int.toNat x3) []).getD 0 0) : Int) == 4)
             (cond (((IntKind.i64.wrap (x0 + (IntKind.i64.wrap (((r53 ((x4.getD (Int.toNat x3) []).getD 0 0)).2) - ((r53 ((x4.getD (Int.toNat x3) []).getD 0 0)).1))))) : Int) != 0)
              (0, (IntKind.i64.wrap (x0 + (IntKind.i64.wrap (((r53 ((x4.getD (Int.toNat x3) []).getD 0 0)).2) - ((r53 ((x4.getD (Int.toNat x3) []).getD 0 0)).1))))), x1, 0, 0)
              (ih (IntKind.i64.wrap (x0 + (IntKind.i64.wrap (((r53 ((x4.getD (Int.toNat x3) []).getD 0 0)).2) - ((r53 ((x4.getD (Int.toNat x3) []).getD 0 0)).1))))) x1 x2 (IntKind.i64.wrap (x3 + 1)) x4 x5))
             (ih (IntKind.i64.wrap (x0 + (IntKind.i64.wrap (((r53 ((x4.getD (Int.toNat x3) []).getD 0 0)).2) - ((r53 ((x4.getD (Int.toNat x3) []).getD 0 0)).1))))) x1 x2 (IntKind.i64.wrap (x3 + 1)) x4 x5)))))))
       (cond ((((x4.getD (Int.toNat x3) []).getD 0 0) : Int) == 3)
        (cond (decide (((IntKind.i64.wrap ((x4.getD (Int.toNat x3) []).getD 1 0)) : Int) < 0))
         (0, x0, x1, 0, 0)
         (cond (decide (((IntKind.i64.wrap ((x4.getD (Int.toNat x3) []).getD 1 0)) : Int) ≥ x1))
          (0, x0, x1, 0, 0)
          (cond ((((x4.getD (Int.toNat x3) []).getD 0 0) : Int) != 1)
           (cond (!(r52 (Int.toNat ((x4.getD (Int.toNat x3) []).getD 2 0))))
            (0, x0, x1, 0, 0)
            (cond (decide ((x0 : Int) < ((r53 ((x4.getD (Int.toNat x3) []).getD 0 0)).1)))
             (0, x0, x1, 0, 0)
             (cond (decide (((IntKind.i64.wrap (x0 + (IntKind.i64.wrap (((r53 ((x4.getD (Int.toNat x3) []).getD 0 0)).2) - ((r53 ((x4.getD (Int.toNat x3) []).getD 0 0)).1))))) : Int) > 20))
              (0, (IntKind.i64.wrap (x0 + (IntKind.i64.wrap (((r53 ((x4.getD (Int.toNat x3) []).getD 0 0)).2) - ((r53 ((x4.getD (Int.toNat x3) []).getD 0 0)).1))))), x1, 0, 0)
              (cond ((((x4.getD (Int.toNat x3) []).getD 0 0) : Int) == 4)
               (cond (((IntKind.i64.wrap (x0 + (IntKind.i64.wrap (((r53 ((x4.getD (Int.toNat x3) []).getD 0 0)).2) - ((r53 ((x4.getD (Int.toNat x3) []).getD 0 0)).1))))) : Int) != 0)
                (0, (IntKind.i64.wrap (x0 + (IntKind.i64.wrap (((r53 ((x4.getD (Int.toNat x3) []).getD 0 0)).2) - ((r53 ((x4.getD (Int.toNat x3) []).getD 0 0)).1))))), x1, 0, 0)
                (ih (IntKind.i64.wrap (x0 + (IntKind.i64.wrap (((r53 ((x4.getD (Int.toNat x3) []).getD 0 0)).2) - ((r53 ((x4.getD (Int.toNat x3) []).getD 0 0)).1))))) x1 x2 (IntKind.i64.wrap (x3 + 1)) x4 x5))
               (ih (IntKind.i64.wrap (x0 + (IntKind.i64.wrap (((r53 ((x4.getD (Int.toNat x3) []).getD 0 0)).2) - ((r53 ((x4.getD (Int.toNat x3) []).getD 0 0)).1))))) x1 x2 (IntKind.i64.wrap (x3 + 1)) x4 x5)))))
           (cond (decide ((x0 : Int) < ((r53 ((x4.getD (Int.toNat x3) []).getD 0 0)).1)))
            (0, x0, x1, 0, 0)
            (cond (decide (((IntKind.i64.wrap (x0 + (IntKind.i64.wrap (((r53 ((x4.getD (Int.toNat x3) []).getD 0 0)).2) - ((r53 ((x4.getD (Int.toNat x3) []).getD 0 0)).1))))) : Int) > 20))
             (0, (IntKind.i64.wrap (x0 + (IntKind.i64.wrap (((r53 ((x4.getD (Int.toNat x3) []).getD 0 0)).2) - ((r53 ((x4.getD (Int.toNat x3) []).getD 0 0)).1))))), x1, 0, 0)
             (cond ((((x4.getD (Int.toNat x3) []).getD 0 0) : Int) == 4)
              (cond (((IntKind.i64.wrap (x0 + (IntKind.i64.wrap (((r53 ((x4.getD (Int.toNat x3) []).getD 0 0)).2) - ((r53 ((x4.getD (Int.toNat x3) []).getD 0 0)).1))))) : Int) != 0)
               (0, (IntKind.i64.wrap (x0 + (IntKind.i64.wrap (((r53 ((x4.getD (Int.toNat x3) []).getD 0 0)).2) - ((r53 ((x4.getD (Int.toNat x3) []).getD 0 0)).1))))), x1, 0, 0)
               (ih (IntKind.i64.wrap (x0 + (IntKind.i64.wrap (((r53 ((x4.getD (Int.toNat x3) []).getD 0 0)).2) - ((r53 ((x4.getD (Int.toNat x3) []).getD 0 0)).1))))) x1 x2 (IntKind.i64.wrap (x3 + 1)) x4 x5))
              (ih (IntKind.i64.wrap (x0 + (IntKind.i64.wrap (((r53 ((x4.getD (Int.toNat x3) []).getD 0 0)).2) - ((r53 ((x4.getD (Int.toNat x3) []).getD 0 0)).1))))) x1 x2 (IntKind.i64.wrap (x3 + 1)) x4 x5)))))))
        (cond ((((x4.getD (Int.toNat x3) []).getD 0 0) : Int) == 4)
         (cond (((IntKind.i64.wrap ((x4.getD (Int.toNat x3) []).getD 1 0)) : Int) != x1)
          (0, x0, x1, 0, 0)
          (cond (decide ((x1 : Int) ≥ ((x5.length : Nat) : Int)))
           (0, x0, x1, 0, 0)
           (cond ((((x4.getD (Int.toNat x3) []).getD 0 0) : Int) != 1)
            (cond (!(r52 (Int.toNat ((x4.getD (Int.toNat x3) []).getD 2 0))))
             (0, x0, (IntKind.i64.wrap (x1 + 1)), 0, 0)
             (cond (decide ((x0 : Int) < ((r53 ((x4.getD (Int.toNat x3) []).getD 0 0)).1)))
              (0, x0, (IntKind.i64.wrap (x1 + 1)), 0, 0)
              (cond (decide (((IntKind.i64.wrap (x0 + (IntKind.i64.wrap (((r53 ((x4.getD (Int.toNat x3) []).getD 0 0)).2) - ((r53 ((x4.getD (Int.toNat x3) []).getD 0 0)).1))))) : Int) > 20))
               (0, (IntKind.i64.wrap (x0 + (IntKind.i64.wrap (((r53 ((x4.getD (Int.toNat x3) []).getD 0 0)).2) - ((r53 ((x4.getD (Int.toNat x3) []).getD 0 0)).1))))), (IntKind.i64.wrap (x1 + 1)), 0, 0)
               (cond (((IntKind.i64.wrap (x0 + (IntKind.i64.wrap (((r53 ((x4.getD (Int.toNat x3) []).getD 0 0)).2) - ((r53 ((x4.getD (Int.toNat x3) []).getD 0 0)).1))))) : Int) != 0)
                (0, (IntKind.i64.wrap (x0 + (IntKind.i64.wrap (((r53 ((x4.getD (Int.toNat x3) []).getD 0 0)).2) - ((r53 ((x4.getD (Int.toNat x3) []).getD 0 0)).1))))), (IntKind.i64.wrap (x1 + 1)), 0, 0)
                (ih (IntKind.i64.wrap (x0 + (IntKind.i64.wrap (((r53 ((x4.getD (Int.toNat x3) []).getD 0 0)).2) - ((r53 ((x4.getD (Int.toNat x3) []).getD 0 0)).1))))) (IntKind.i64.wrap (x1 + 1)) x2 (IntKind.i64.wrap (x3 + 1)) x4 x5)))))
            (cond (decide ((x0 : Int) < ((r53 ((x4.getD (Int.toNat x3) []).getD 0 0)).1)))
             (0, x0, (IntKind.i64.wrap (x1 + 1)), 0, 0)
             (cond (decide (((IntKind.i64.wrap (x0 + (IntKind.i64.wrap (((r53 ((x4.getD (Int.toNat x3) []).getD 0 0)).2) - ((r53 ((x4.getD (Int.toNat x3) []).getD 0 0)).1))))) : Int) > 20))
              (0, (IntKind.i64.wrap (x0 + (IntKind.i64.wrap (((r53 ((x4.getD (Int.toNat x3) []).getD 0 0)).2) - ((r53 ((x4.getD (Int.toNat x3) []).getD 0 0)).1))))), (IntKind.i64.wrap (x1 + 1)), 0, 0)
              (cond (((IntKind.i64.wrap (x0 + (IntKind.i64.wrap (((r53 ((x4.getD (Int.toNat x3) []).getD 0 0)).2) - ((r53 ((x4.getD (Int.toNat x3) []).getD 0 0)).1))))) : Int) != 0)
               (0, (IntKind.i64.wrap (x0 + (IntKind.i64.wrap (((r53 ((x4.getD (Int.toNat x3) []).getD 0 0)).2) - ((r53 ((x4.getD (Int.toNat x3) []).getD 0 0)).1))))), (IntKind.i64.wrap (x1 + 1)), 0, 0)
               (ih (IntKind.i64.wrap (x0 + (IntKind.i64.wrap (((r53 ((x4.getD (Int.toNat x3) []).getD 0 0)).2) - ((r53 ((x4.getD (Int.toNat x3) []).getD 0 0)).1))))) (IntKind.i64.wrap (x1 + 1)) x2 (IntKind.i64.wrap (x3 + 1)) x4 x5)))))))
         (cond (((IntKind.i64.wrap ((x4.getD (Int.toNat x3) []).getD 1 0)) : Int) != 0)
          (0, x0, x1, 0, 0)
          (cond ((((x4.getD (Int.toNat x3) []).getD 0 0) : Int) != 1)
           (cond (!(r52 (Int.toNat ((x4.getD (Int.toNat x3) []).getD 2 0))))
            (0, x0, x1, 0, 0)
            (cond (decide ((x0 : Int) < ((r53 ((x4.getD (Int.toNat x3) []).getD 0 0)).1)))
             (0, x0, x1, 0, 0)
             (cond (decide (((IntKind.i64.wrap (x0 + (IntKind.i64.wrap (((r53 ((x4.getD (Int.toNat x3) []).getD 0 0)).2) - ((r53 ((x4.getD (Int.toNat x3) []).getD 0 0)).1))))) : Int) > 20))
              (0, (IntKind.i64.wrap (x0 + (IntKind.i64.wrap (((r53 ((x4.getD (Int.toNat x3) []).getD 0 0)).2) - ((r53 ((x4.getD (Int.toNat x3) []).getD 0 0)).1))))), x1, 0, 0)
              (ih (IntKind.i64.wrap (x0 + (IntKind.i64.wrap (((r53 ((x4.getD (Int.toNat x3) []).getD 0 0)).2) - ((r53 ((x4.getD (Int.toNat x3) []).getD 0 0)).1))))) x1 x2 (IntKind.i64.wrap (x3 + 1)) x4 x5))))
           (cond (decide ((x0 : Int) < ((r53 ((x4.getD (Int.toNat x3) []).getD 0 0)).1)))
            (0, x0, x1, 0, 0)
            (cond (decide (((IntKind.i64.wrap (x0 + (IntKind.i64.wrap (((r53 ((x4.getD (Int.toNat x3) []).getD 0 0)).2) - ((r53 ((x4.getD (Int.toNat x3) []).getD 0 0)).1))))) : Int) > 20))
             (0, (IntKind.i64.wrap (x0 + (IntKind.i64.wrap (((r53 ((x4.getD (Int.toNat x3) []).getD 0 0)).2) - ((r53 ((x4.getD (Int.toNat x3) []).getD 0 0)).1))))), x1, 0, 0)
             (ih (IntKind.i64.wrap (x0 + (IntKind.i64.wrap (((r53 ((x4.getD (Int.toNat x3) []).getD 0 0)).2) - ((r53 ((x4.getD (Int.toNat x3) []).getD 0 0)).1))))) x1 x2 (IntKind.i64.wrap (x3 + 1)) x4 x5)))))))))))
   (2, 0, 0, 0, 0))
  (1, 0, 0, x0, x1)
noncomputable def r16l1 : Nat → Int → Int → Int → Int → List (List Int) → List ByteArray → (Nat × Int × Int × Int × Int)
 | 0 => fun _ _ _ _ _ _ => (2, 0, 0, 0, 0)
 | m + 1 => b16l1 (r16l1 m)
noncomputable def a16l1 (x0 x1 x2 x3 : Int) (x4 : List (List Int)) (x5 : List ByteArray) (p : Nat × Int × Int × Int × Int) : Option (Fin' × List Value × St) := firstT ([((Nat.beq (p.1) 0), .ret, [.pointer (some ⟨0, 0, some 0⟩), .bool false, .int .i64 (p.2.1), .int .i64 (p.2.2.1)], ⟨[⟨true, (some (.cells [wsl 2, wsl 1]))⟩, ⟨true, (some (.tab [.int .i8, .int .i16, .fl .f32] x4))⟩, ⟨true, (some (.strs x5))⟩], 3, []⟩), ((Nat.beq (p.1) 1), .exit 2, [.pointer (some ⟨0, 0, some 0⟩), anyV, .int .i64 (p.2.2.2.1), .int .i64 (p.2.2.2.2)], ⟨[⟨true, (some (.cells [wsl 2, wsl 1]))⟩, ⟨true, (some (.tab [.int .i8, .int .i16, .fl .f32] x4))⟩, ⟨true, (some (.strs x5))⟩], 3, []⟩)].map fun (b, x) => (b, (x.1, frameOf 161 [1, 2, 5, 6] x.2.1, x.2.2)))
noncomputable def u16l1 (x0 x1 x2 x3 : Int) (x4 : List (List Int)) (x5 : List ByteArray) (p : Nat × Int × Int × Int × Int) : Option (Fin' × List Value × St) := alts ([((Nat.beq (p.1) 0), .ret, [.pointer (some ⟨0, 0, some 0⟩), .bool false, .int .i64 (p.2.1), .int .i64 (p.2.2.1)], ⟨[⟨true, (some (.cells [wsl 2, wsl 1]))⟩, ⟨true, (some (.tab [.int .i8, .int .i16, .fl .f32] x4))⟩, ⟨true, (some (.strs x5))⟩], 3, []⟩), ((Nat.beq (p.1) 1), .exit 2, [.pointer (some ⟨0, 0, some 0⟩), anyV, .int .i64 (p.2.2.2.1), .int .i64 (p.2.2.2.2)], ⟨[⟨true, (some (.cells [wsl 2, wsl 1]))⟩, ⟨true, (some (.tab [.int .i8, .int .i16, .fl .f32] x4))⟩, ⟨true, (some (.strs x5))⟩], 3, []⟩)].map fun (b, x) => (b, (x.1, frameOf 161 [1, 2, 5, 6] x.2.1, x.2.2))) some
theorem v16l1 (x0 x1 x2 x3 : Int) (x4 : List (List Int)) (x5 : List ByteArray) (p : Nat × Int × Int × Int × Int) : u16l1 x0 x1 x2 x3 x4 x5 p = a16l1 x0 x1 x2 x3 x4 x5 p := alts_first _
noncomputable def q16l1 (m : Nat) : SumK := fun vals s =>
 match vals, s.h with
 | [.pointer (some ⟨f0, f1, some f2⟩), .int .i64 x0, .int .i64 x1, .iface f3 .nilIface, .int .i64 x2, .int .i64 x3], [⟨true, some (.cells [.iface f4 .nilIface, .iface f5 .nilIface])⟩, ⟨true, some (.tab [.int .i8, .int .i16, .fl .f32] x4)⟩, ⟨true, some (.strs x5)⟩] => if f0 = 0 ∧ f1 = 0 ∧ f2 = 0 ∧ f3 = 1 ∧ f4 = 2 ∧ f5 = 1 then [((Nat.beq ((r16l1 m x0 x1 x2 x3 x4 x5).1) 0), .ret, [.pointer (some ⟨0, 0, some 0⟩), .bool false, .int .i64 ((r16l1 m x0 x1 x2 x3 x4 x5).2.1), .int .i64 ((r16l1 m x0 x1 x2 x3 x4 x5).2.2.1)], ⟨[⟨true, (some (.cells [wsl 2, wsl 1]))⟩, ⟨true, (some (.tab [.int .i8, .int .i16, .fl .f32] x4))⟩, ⟨true, (some (.strs x5))⟩], 3, []⟩), ((Nat.beq ((r16l1 m x0 x1 x2 x3 x4 x5).1) 1), .exit 2, [.pointer (some ⟨0, 0, some 0⟩), anyV, .int .i64 ((r16l1 m x0 x1 x2 x3 x4 x5).2.2.2.1), .int .i64 ((r16l1 m x0 x1 x2 x3 x4 x5).2.2.2.2)], ⟨[⟨true, (some (.cells [wsl 2, wsl 1]))⟩, ⟨true, (some (.tab [.int .i8, .int .i16, .fl .f32] x4))⟩, ⟨true, (some (.strs x5))⟩], 3, []⟩)] else noQ vals s
 | _, _ => noQ vals s
noncomputable def w16l1 (ih : Int → Int → Int → Int → List (List Int) → List ByteArray → (Nat × Int × Int × Int × Int)) (x0 x1 x2 x3 : Int) (x4 : List (List Int)) (x5 : List ByteArray) : Option (Fin' × List Value × St) :=
 (cond (decide ((x3 : Int) < x2))
 (cond ((decide ((0 : Int) ≤ x3)) && (Nat.blt (Int.toNat x3) x4.length))
  (cond (Nat.blt (Int.toNat x3) x4.length)
   (cond (decide ((((x4.getD (Int.toNat x3) []).getD 0 0) : Int) < 1))
    (a16l1 x0 x1 x2 x3 x4 x5 (0, x0, x1, 0, 0))
    (cond (decide ((((x4.getD (Int.toNat x3) []).getD 0 0) : Int) > 12))
     (a16l1 x0 x1 x2 x3 x4 x5 (0, x0, x1, 0, 0))
     (cond ((((x4.getD (Int.toNat x3) []).getD 0 0) : Int) == 1)
      (cond (((IntKind.i64.wrap ((x4.getD (Int.toNat x3) []).getD 1 0)) : Int) != 0)
       (a16l1 x0 x1 x2 x3 x4 x5 (0, x0, x1, 0, 0))
       (cond (!(r51 (Int.toNat ((x4.getD (Int.toNat x3) []).getD 2 0))))
        (a16l1 x0 x1 x2 x3 x4 x5 (0, x0, x1, 0, 0))
        (cond (feq .f32 (Int.toNat ((x4.getD (Int.toNat x3) []).getD 2 0)) 0)
         (cond (!(r52 (Int.toNat ((x4.getD (Int.toNat x3) []).getD 2 0))))
          (a16l1 x0 x1 x2 x3 x4 x5 (0, x0, x1, 0, 0))
          (cond ((((x4.getD (Int.toNat x3) []).getD 0 0) : Int) != 1)
           (cond (!(r52 (Int.toNat ((x4.getD (Int.toNat x3) []).getD 2 0))))
            (some (.ret, frameOf 161 [1, 2, 5, 6] [.pointer (some ⟨0, 0, some 0⟩), .bool false, .int .i64 x0, .int .i64 x1], ⟨[⟨true, (some (.cells [wsl 2, wsl 1]))⟩, ⟨true, (some (.tab [.int .i8, .int .i16, .fl .f32] x4))⟩, ⟨true, (some (.strs x5))⟩], 3, []⟩))
            (cond (decide ((x0 : Int) < ((r53 ((x4.getD (Int.toNat x3) []).getD 0 0)).1)))
             (a16l1 x0 x1 x2 x3 x4 x5 (0, x0, x1, 0, 0))
             (cond (decide (((IntKind.i64.wrap (x0 + (IntKind.i64.wrap (((r53 ((x4.getD (Int.toNat x3) []).getD 0 0)).2) - ((r53 ((x4.getD (Int.toNat x3) []).getD 0 0)).1))))) : Int) > 20))
              (a16l1 x0 x1 x2 x3 x4 x5 (0, (IntKind.i64.wrap (x0 + (IntKind.i64.wrap (((r53 ((x4.getD (Int.toNat x3) []).getD 0 0)).2) - ((r53 ((x4.getD (Int.toNat x3) []).getD 0 0)).1))))), x1, 0, 0))
              (cond ((((x4.getD (Int.toNat x3) []).getD 0 0) : Int) == 4)
               (cond (((IntKind.i64.wrap (x0 + (IntKind.i64.wrap (((r53 ((x4.getD (Int.toNat x3) []).getD 0 0)).2) - ((r53 ((x4.getD (Int.toNat x3) []).getD 0 0)).1))))) : Int) != 0)
                (a16l1 x0 x1 x2 x3 x4 x5 (0, (IntKind.i64.wrap (x0 + (IntKind.i64.wrap (((r53 ((x4.getD (Int.toNat x3) []).getD 0 0)).2) - ((r53 ((x4.getD (Int.toNat x3) []).getD 0 0)).1))))), x1, 0, 0))
                (u16l1 x0 x1 x2 x3 x4 x5 (ih (IntKind.i64.wrap (x0 + (IntKind.i64.wrap (((r53 ((x4.getD (Int.toNat x3) []).getD 0 0)).2) - ((r53 ((x4.getD (Int.toNat x3) []).getD 0 0)).1))))) x1 x2 (IntKind.i64.wrap (x3 + 1)) x4 x5)))
               (u16l1 x0 x1 x2 x3 x4 x5 (ih (IntKind.i64.wrap (x0 + (IntKind.i64.wrap (((r53 ((x4.getD (Int.toNat x3) []).getD 0 0)).2) - ((r53 ((x4.getD (Int.toNat x3) []).getD 0 0)).1))))) x1 x2 (IntKind.i64.wrap (x3 + 1)) x4 x5))))))
           (cond (decide ((x0 : Int) < ((r53 ((x4.getD (Int.toNat x3) []).getD 0 0)).1)))
            (a16l1 x0 x1 x2 x3 x4 x5 (0, x0, x1, 0, 0))
            (cond (decide (((IntKind.i64.wrap (x0 + (IntKind.i64.wrap (((r53 ((x4.getD (Int.toNat x3) []).getD 0 0)).2) - ((r53 ((x4.getD (Int.toNat x3) []).getD 0 0)).1))))) : Int) > 20))
             (a16l1 x0 x1 x2 x3 x4 x5 (0, (IntKind.i64.wrap (x0 + (IntKind.i64.wrap (((r53 ((x4.getD (Int.toNat x3) []).getD 0 0)).2) - ((r53 ((x4.getD (Int.toNat x3) []).getD 0 0)).1))))), x1, 0, 0))
             (cond ((((x4.getD (Int.toNat x3) []).getD 0 0) : Int) == 4)
              (cond (((IntKind.i64.wrap (x0 + (IntKind.i64.wrap (((r53 ((x4.getD (Int.toNat x3) []).getD 0 0)).2) - ((r53 ((x4.getD (Int.toNat x3) []).getD 0 0)).1))))) : Int) != 0)
               (a16l1 x0 x1 x2 x3 x4 x5 (0, (IntKind.i64.wrap (x0 + (IntKind.i64.wrap (((r53 ((x4.getD (Int.toNat x3) []).getD 0 0)).2) - ((r53 ((x4.getD (Int.toNat x3) []).getD 0 0)).1))))), x1, 0, 0))
               (u16l1 x0 x1 x2 x3 x4 x5 (ih (IntKind.i64.wrap (x0 + (IntKind.i64.wrap (((r53 ((x4.getD (Int.toNat x3) []).getD 0 0)).2) - ((r53 ((x4.getD (Int.toNat x3) []).getD 0 0)).1))))) x1 x2 (IntKind.i64.wrap (x3 + 1)) x4 x5)))
              (u16l1 x0 x1 x2 x3 x4 x5 (ih (IntKind.i64.wrap (x0 + (IntKind.i64.wrap (((r53 ((x4.getD (Int.toNat x3) []).getD 0 0)).2) - ((r53 ((x4.getD (Int.toNat x3) []).getD 0 0)).1))))) x1 x2 (IntKind.i64.wrap (x3 + 1)) x4 x5)))))))
         (cond ((((x4.getD (Int.toNat x3) []).getD 0 0) : Int) != 1)
          (cond (!(r52 (Int.toNat ((x4.getD (Int.toNat x3) []).getD 2 0))))
           (a16l1 x0 x1 x2 x3 x4 x5 (0, x0, x1, 0, 0))
           (cond (decide ((x0 : Int) < ((r53 ((x4.getD (Int.toNat x3) []).getD 0 0)).1)))
            (a16l1 x0 x1 x2 x3 x4 x5 (0, x0, x1, 0, 0))
            (cond (decide (((IntKind.i64.wrap (x0 + (IntKind.i64.wrap (((r53 ((x4.getD (Int.toNat x3) []).getD 0 0)).2) - ((r53 ((x4.getD (Int.toNat x3) []).getD 0 0)).1))))) : Int) > 20))
             (a16l1 x0 x1 x2 x3 x4 x5 (0, (IntKind.i64.wrap (x0 + (IntKind.i64.wrap (((r53 ((x4.getD (Int.toNat x3) []).getD 0 0)).2) - ((r53 ((x4.getD (Int.toNat x3) []).getD 0 0)).1))))), x1, 0, 0))
             (cond ((((x4.getD (Int.toNat x3) []).getD 0 0) : Int) == 4)
              (cond (((IntKind.i64.wrap (x0 + (IntKind.i64.wrap (((r53 ((x4.getD (Int.toNat x3) []).getD 0 0)).2) - ((r53 ((x4.getD (Int.toNat x3) []).getD 0 0)).1))))) : Int) != 0)
               (a16l1 x0 x1 x2 x3 x4 x5 (0, (IntKind.i64.wrap (x0 + (IntKind.i64.wrap (((r53 ((x4.getD (Int.toNat x3) []).getD 0 0)).2) - ((r53 ((x4.getD (Int.toNat x3) []).getD 0 0)).1))))), x1, 0, 0))
               (u16l1 x0 x1 x2 x3 x4 x5 (ih (IntKind.i64.wrap (x0 + (IntKind.i64.wrap (((r53 ((x4.getD (Int.toNat x3) []).getD 0 0)).2) - ((r53 ((x4.getD (Int.toNat x3) []).getD 0 0)).1))))) x1 x2 (IntKind.i64.wrap (x3 + 1)) x4 x5)))
              (u16l1 x0 x1 x2 x3 x4 x5 (ih (IntKind.i64.wrap (x0 + (IntKind.i64.wrap (((r53 ((x4.getD (Int.toNat x3) []).getD 0 0)).2) - ((r53 ((x4.getD (Int.toNat x3) []).getD 0 0)).1))))) x1 x2 (IntKind.i64.wrap (x3 + 1)) x4 x5))))))
          (cond (decide ((x0 : Int) < ((r53 ((x4.getD (Int.toNat x3) []).getD 0 0)).1)))
           (a16l1 x0 x1 x2 x3 x4 x5 (0, x0, x1, 0, 0))
           (cond (decide (((IntKind.i64.wrap (x0 + (IntKind.i64.wrap (((r53 ((x4.getD (Int.toNat x3) []).getD 0 0)).2) - ((r53 ((x4.getD (Int.toNat x3) []).getD 0 0)).1))))) : Int) > 20))
            (a16l1 x0 x1 x2 x3 x4 x5 (0, (IntKind.i64.wrap (x0 + (IntKind.i64.wrap (((r53 ((x4.getD (Int.toNat x3) []).getD 0 0)).2) - ((r53 ((x4.getD (Int.toNat x3) []).getD 0 0)).1))))), x1, 0, 0))
            (cond ((((x4.getD (Int.toNat x3) []).getD 0 0) : Int) == 4)
             (cond (((IntKind.i64.wrap (x0 + (IntKind.i64.wrap (((r53 ((x4.getD (Int.toNat x3) []).getD 0 0)).2) - ((r53 ((x4.getD (Int.toNat x3) []).getD 0 0)).1))))) : Int) != 0)
              (a16l1 x0 x1 x2 x3 x4 x5 (0, (IntKind.i64.wrap (x0 + (IntKind.i64.wrap (((r53 ((x4.getD (Int.toNat x3) []).getD 0 0)).2) - ((r53 ((x4.getD (Int.toNat x3) []).getD 0 0)).1))))), x1, 0, 0))
              (u16l1 x0 x1 x2 x3 x4 x5 (ih (IntKind.i64.wrap (x0 + (IntKind.i64.wrap (((r53 ((x4.getD (Int.toNat x3) []).getD 0 0)).2) - ((r53 ((x4.getD (Int.toNat x3) []).getD 0 0)).1))))) x1 x2 (IntKind.i64.wrap (x3 + 1)) x4 x5)))
             (u16l1 x0 x1 x2 x3 x4 x5 (ih (IntKind.i64.wrap (x0 + (IntKind.i64.wrap (((r53 ((x4.getD (Int.toNat x3) []).getD 0 0)).2) - ((r53 ((x4.getD (Int.toNat x3) []).getD 0 0)).1))))) x1 x2 (IntKind.i64.wrap (x3 + 1)) x4 x5)))))))))
      (cond ((((x4.getD (Int.toNat x3) []).getD 0 0) : Int) == 2)
       (cond (decide (((IntKind.i64.wrap ((x4.getD (Int.toNat x3) []).getD 1 0)) : Int) < 0))
        (a16l1 x0 x1 x2 x3 x4 x5 (0, x0, x1, 0, 0))
        (cond (decide (((IntKind.i64.wrap ((x4.getD (Int.toNat x3) []).getD 1 0)) : Int) ≥ 4))
         (a16l1 x0 x1 x2 x3 x4 x5 (0, x0, x1, 0, 0))
         (cond ((((x4.getD (Int.toNat x3) []).getD 0 0) : Int) != 1)
          (cond (!(r52 (Int.toNat ((x4.getD (Int.toNat x3) []).getD 2 0))))
           (a16l1 x0 x1 x2 x3 x4 x5 (0, x0, x1, 0, 0))
           (cond (decide ((x0 : Int) < ((r53 ((x4.getD (Int.toNat x3) []).getD 0 0)).1)))
            (a16l1 x0 x1 x2 x3 x4 x5 (0, x0, x1, 0, 0))
            (cond (decide (((IntKind.i64.wrap (x0 + (IntKind.i64.wrap (((r53 ((x4.getD (Int.toNat x3) []).getD 0 0)).2) - ((r53 ((x4.getD (Int.toNat x3) []).getD 0 0)).1))))) : Int) > 20))
             (a16l1 x0 x1 x2 x3 x4 x5 (0, (IntKind.i64.wrap (x0 + (IntKind.i64.wrap (((r53 ((x4.getD (Int.toNat x3) []).getD 0 0)).2) - ((r53 ((x4.getD (Int.toNat x3) []).getD 0 0)).1))))), x1, 0, 0))
             (cond ((((x4.getD (Int.toNat x3) []).getD 0 0) : Int) == 4)
              (cond (((IntKind.i64.wrap (x0 + (IntKind.i64.wrap (((r53 ((x4.getD (Int.toNat x3) []).getD 0 0)).2) - ((r53 ((x4.getD (Int.toNat x3) []).getD 0 0)).1))))) : Int) != 0)
               (a16l1 x0 x1 x2 x3 x4 x5 (0, (IntKind.i64.wrap (x0 + (IntKind.i64.wrap (((r53 ((x4.getD (Int.toNat x3) []).getD 0 0)).2) - ((r53 ((x4.getD (Int.toNat x3) []).getD 0 0)).1))))), x1, 0, 0))
               (u16l1 x0 x1 x2 x3 x4 x5 (ih (IntKind.i64.wrap (x0 + (IntKind.i64.wrap (((r53 ((x4.getD (Int.toNat x3) []).getD 0 0)).2) - ((r53 ((x4.getD (Int.toNat x3) []).getD 0 0)).1))))) x1 x2 (IntKind.i64.wrap (x3 + 1)) x4 x5)))
              (u16l1 x0 x1 x2 x3 x4 x5 (ih (IntKind.i64.wrap (x0 + (IntKind.i64.wrap (((r53 ((x4.getD (Int.toNat x3) []).getD 0 0)).2) - ((r53 ((x4.getD (Int.toNat x3) []).getD 0 0)).1))))) x1 x2 (IntKind.i64.wrap (x3 + 1)) x4 x5))))))
          (cond (decide ((x0 : Int) < ((r53 ((x4.getD (Int.toNat x3) []).getD 0 0)).1)))
           (a16l1 x0 x1 x2 x3 x4 x5 (0, x0, x1, 0, 0))
           (cond (decide (((IntKind.i64.wrap (x0 + (IntKind.i64.wrap (((r53 ((x4.getD (Int.toNat x3) []).getD 0 0)).2) - ((r53 ((x4.getD (Int.toNat x3) []).getD 0 0)).1))))) : Int) > 20))
            (a16l1 x0 x1 x2 x3 x4 x5 (0, (IntKind.i64.wrap (x0 + (IntKind.i64.wrap (((r53 ((x4.getD (Int.toNat x3) []).getD 0 0)).2) - ((r53 ((x4.getD (Int.toNat x3) []).getD 0 0)).1))))), x1, 0, 0))
            (cond ((((x4.getD (Int.toNat x3) []).getD 0 0) : Int) == 4)
             (cond (((IntKind.i64.wrap (x0 + (IntKind.i64.wrap (((r53 ((x4.getD (Int.toNat x3) []).getD 0 0)).2) - ((r53 ((x4.getD (Int.toNat x3) []).getD 0 0)).1))))) : Int) != 0)
              (a16l1 x0 x1 x2 x3 x4 x5 (0, (IntKind.i64.wrap (x0 + (IntKind.i64.wrap (((r53 ((x4.getD (Int.toNat x3) []).getD 0 0)).2) - ((r53 ((x4.getD (Int.toNat x3) []).getD 0 0)).1))))), x1, 0, 0))
              (u16l1 x0 x1 x2 x3 x4 x5 (ih (IntKind.i64.wrap (x0 + (IntKind.i64.wrap (((r53 ((x4.getD (Int.toNat x3) []).getD 0 0)).2) - ((r53 ((x4.getD (Int.toNat x3) []).getD 0 0)).1))))) x1 x2 (IntKind.i64.wrap (x3 + 1)) x4 x5)))
             (u16l1 x0 x1 x2 x3 x4 x5 (ih (IntKind.i64.wrap (x0 + (IntKind.i64.wrap (((r53 ((x4.getD (Int.toNat x3) []).getD 0 0)).2) - ((r53 ((x4.getD (Int.toNat x3) []).getD 0 0)).1))))) x1 x2 (IntKind.i64.wrap (x3 + 1)) x4 x5))))))))
       (cond ((((x4.getD (Int.toNat x3) []).getD 0 0) : Int) == 3)
        (cond (decide (((IntKind.i64.wrap ((x4.getD (Int.toNat x3) []).getD 1 0)) : Int) < 0))
         (a16l1 x0 x1 x2 x3 x4 x5 (0, x0, x1, 0, 0))
         (cond (decide (((IntKind.i64.wrap ((x4.getD (Int.toNat x3) []).getD 1 0)) : Int) ≥ x1))
          (a16l1 x0 x1 x2 x3 x4 x5 (0, x0, x1, 0, 0))
          (cond ((((x4.getD (Int.toNat x3) []).getD 0 0) : Int) != 1)
           (cond (!(r52 (Int.toNat ((x4.getD (Int.toNat x3) []).getD 2 0))))
            (a16l1 x0 x1 x2 x3 x4 x5 (0, x0, x1, 0, 0))
            (cond (decide ((x0 : Int) < ((r53 ((x4.getD (Int.toNat x3) []).getD 0 0)).1)))
             (a16l1 x0 x1 x2 x3 x4 x5 (0, x0, x1, 0, 0))
             (cond (decide (((IntKind.i64.wrap (x0 + (IntKind.i64.wrap (((r53 ((x4.getD (Int.toNat x3) []).getD 0 0)).2) - ((r53 ((x4.getD (Int.toNat x3) []).getD 0 0)).1))))) : Int) > 20))
              (a16l1 x0 x1 x2 x3 x4 x5 (0, (IntKind.i64.wrap (x0 + (IntKind.i64.wrap (((r53 ((x4.getD (Int.toNat x3) []).getD 0 0)).2) - ((r53 ((x4.getD (Int.toNat x3) []).getD 0 0)).1))))), x1, 0, 0))
              (cond ((((x4.getD (Int.toNat x3) []).getD 0 0) : Int) == 4)
               (cond (((IntKind.i64.wrap (x0 + (IntKind.i64.wrap (((r53 ((x4.getD (Int.toNat x3) []).getD 0 0)).2) - ((r53 ((x4.getD (Int.toNat x3) []).getD 0 0)).1))))) : Int) != 0)
                (a16l1 x0 x1 x2 x3 x4 x5 (0, (IntKind.i64.wrap (x0 + (IntKind.i64.wrap (((r53 ((x4.getD (Int.toNat x3) []).getD 0 0)).2) - ((r53 ((x4.getD (Int.toNat x3) []).getD 0 0)).1))))), x1, 0, 0))
                (u16l1 x0 x1 x2 x3 x4 x5 (ih (IntKind.i64.wrap (x0 + (IntKind.i64.wrap (((r53 ((x4.getD (Int.toNat x3) []).getD 0 0)).2) - ((r53 ((x4.getD (Int.toNat x3) []).getD 0 0)).1))))) x1 x2 (IntKind.i64.wrap (x3 + 1)) x4 x5)))
               (u16l1 x0 x1 x2 x3 x4 x5 (ih (IntKind.i64.wrap (x0 + (IntKind.i64.wrap (((r53 ((x4.getD (Int.toNat x3) []).getD 0 0)).2) - ((r53 ((x4.getD (Int.toNat x3) []).getD 0 0)).1))))) x1 x2 (IntKind.i64.wrap (x3 + 1)) x4 x5))))))
           (cond (decide ((x0 : Int) < ((r53 ((x4.getD (Int.toNat x3) []).getD 0 0)).1)))
            (a16l1 x0 x1 x2 x3 x4 x5 (0, x0, x1, 0, 0))
            (cond (decide (((IntKind.i64.wrap (x0 + (IntKind.i64.wrap (((r53 ((x4.getD (Int.toNat x3) []).getD 0 0)).2) - ((r53 ((x4.getD (Int.toNat x3) []).getD 0 0)).1))))) : Int) > 20))
             (a16l1 x0 x1 x2 x3 x4 x5 (0, (IntKind.i64.wrap (x0 + (IntKind.i64.wrap (((r53 ((x4.getD (Int.toNat x3) []).getD 0 0)).2) - ((r53 ((x4.getD (Int.toNat x3) []).getD 0 0)).1))))), x1, 0, 0))
             (cond ((((x4.getD (Int.toNat x3) []).getD 0 0) : Int) == 4)
              (cond (((IntKind.i64.wrap (x0 + (IntKind.i64.wrap (((r53 ((x4.getD (Int.toNat x3) []).getD 0 0)).2) - ((r53 ((x4.getD (Int.toNat x3) []).getD 0 0)).1))))) : Int) != 0)
               (a16l1 x0 x1 x2 x3 x4 x5 (0, (IntKind.i64.wrap (x0 + (IntKind.i64.wrap (((r53 ((x4.getD (Int.toNat x3) []).getD 0 0)).2) - ((r53 ((x4.getD (Int.toNat x3) []).getD 0 0)).1))))), x1, 0, 0))
               (u16l1 x0 x1 x2 x3 x4 x5 (ih (IntKind.i64.wrap (x0 + (IntKind.i64.wrap (((r53 ((x4.getD (Int.toNat x3) []).getD 0 0)).2) - ((r53 ((x4.getD (Int.toNat x3) []).getD 0 0)).1))))) x1 x2 (IntKind.i64.wrap (x3 + 1)) x4 x5)))
              (u16l1 x0 x1 x2 x3 x4 x5 (ih (IntKind.i64.wrap (x0 + (IntKind.i64.wrap (((r53 ((x4.getD (Int.toNat x3) []).getD 0 0)).2) - ((r53 ((x4.getD (Int.toNat x3) []).getD 0 0)).1))))) x1 x2 (IntKind.i64.wrap (x3 + 1)) x4 x5))))))))
        (cond ((((x4.getD (Int.toNat x3) []).getD 0 0) : Int) == 4)
         (cond (((IntKind.i64.wrap ((x4.getD (Int.toNat x3) []).getD 1 0)) : Int) != x1)
          (a16l1 x0 x1 x2 x3 x4 x5 (0, x0, x1, 0, 0))
          (cond (decide ((x1 : Int) ≥ ((x5.length : Nat) : Int)))
           (a16l1 x0 x1 x2 x3 x4 x5 (0, x0, x1, 0, 0))
           (cond ((((x4.getD (Int.toNat x3) []).getD 0 0) : Int) != 1)
            (cond (!(r52 (Int.toNat ((x4.getD (Int.toNat x3) []).getD 2 0))))
             (a16l1 x0 x1 x2 x3 x4 x5 (0, x0, (IntKind.i64.wrap (x1 + 1)), 0, 0))
             (cond (decide ((x0 : Int) < ((r53 ((x4.getD (Int.toNat x3) []).getD 0 0)).1)))
              (a16l1 x0 x1 x2 x3 x4 x5 (0, x0, (IntKind.i64.wrap (x1 + 1)), 0, 0))
              (cond (decide (((IntKind.i64.wrap (x0 + (IntKind.i64.wrap (((r53 ((x4.getD (Int.toNat x3) []).getD 0 0)).2) - ((r53 ((x4.getD (Int.toNat x3) []).getD 0 0)).1))))) : Int) > 20))
               (a16l1 x0 x1 x2 x3 x4 x5 (0, (IntKind.i64.wrap (x0 + (IntKind.i64.wrap (((r53 ((x4.getD (Int.toNat x3) []).getD 0 0)).2) - ((r53 ((x4.getD (Int.toNat x3) []).getD 0 0)).1))))), (IntKind.i64.wrap (x1 + 1)), 0, 0))
               (cond ((((x4.getD (Int.toNat x3) []).getD 0 0) : Int) == 4)
                (cond (((IntKind.i64.wrap (x0 + (IntKind.i64.wrap (((r53 ((x4.getD (Int.toNat x3) []).getD 0 0)).2) - ((r53 ((x4.getD (Int.toNat x3) []).getD 0 0)).1))))) : Int) != 0)
                 (a16l1 x0 x1 x2 x3 x4 x5 (0, (IntKind.i64.wrap (x0 + (IntKind.i64.wrap (((r53 ((x4.getD (Int.toNat x3) []).getD 0 0)).2) - ((r53 ((x4.getD (Int.toNat x3) []).getD 0 0)).1))))), (IntKind.i64.wrap (x1 + 1)), 0, 0))
                 (u16l1 x0 x1 x2 x3 x4 x5 (ih (IntKind.i64.wrap (x0 + (IntKind.i64.wrap (((r53 ((x4.getD (Int.toNat x3) []).getD 0 0)).2) - ((r53 ((x4.getD (Int.toNat x3) []).getD 0 0)).1))))) (IntKind.i64.wrap (x1 + 1)) x2 (IntKind.i64.wrap (x3 + 1)) x4 x5)))
                (cond (Nat.beq ((ih (IntKind.i64.wrap (x0 + (IntKind.i64.wrap (((r53 ((x4.getD (Int.toNat x3) []).getD 0 0)).2) - ((r53 ((x4.getD (Int.toNat x3) []).getD 0 0)).1))))) (IntKind.i64.wrap (x1 + 1)) x2 (IntKind.i64.wrap (x3 + 1)) x4 x5).1) 0)
                 (some (.ret, frameOf 161 [1, 2, 5, 6] [.pointer (some ⟨0, 0, some 0⟩), .bool false, .int .i64 ((ih (IntKind.i64.wrap (x0 + (IntKind.i64.wrap (((r53 ((x4.getD (Int.toNat x3) []).getD 0 0)).2) - ((r53 ((x4.getD (Int.toNat x3) []).getD 0 0)).1))))) (IntKind.i64.wrap (x1 + 1)) x2 (IntKind.i64.wrap (x3 + 1)) x4 x5).2.1), .int .i64 ((ih (IntKind.i64.wrap (x0 + (IntKind.i64.wrap (((r53 ((x4.getD (Int.toNat x3) []).getD 0 0)).2) - ((r53 ((x4.getD (Int.toNat x3) []).getD 0 0)).1))))) (IntKind.i64.wrap (x1 + 1)) x2 (IntKind.i64.wrap (x3 + 1)) x4 x5).2.2.1)], ⟨[⟨true, (some (.cells [wsl 2, wsl 1]))⟩, ⟨true, (some (.tab [.int .i8, .int .i16, .fl .f32] x4))⟩, ⟨true, (some (.strs x5))⟩], 3, []⟩))
                 (cond (Nat.beq ((ih (IntKind.i64.wrap (x0 + (IntKind.i64.wrap (((r53 ((x4.getD (Int.toNat x3) []).getD 0 0)).2) - ((r53 ((x4.getD (Int.toNat x3) []).getD 0 0)).1))))) (IntKind.i64.wrap (x1 + 1)) x2 (IntKind.i64.wrap (x3 + 1)) x4 x5).1) 1)
                  (some (.exit 2, frameOf 161 [1, 2, 5, 6] [.pointer (some ⟨0, 0, some 0⟩), anyV, .int .i64 ((ih (IntKind.i64.wrap (x0 + (IntKind.i64.wrap (((r53 ((x4.getD (Int.toNat x3) []).getD 0 0)).2) - ((r53 ((x4.getD (Int.toNat x3) []).getD 0 0)).1))))) (IntKind.i64.wrap (x1 + 1)) x2 (IntKind.i64.wrap (x3 + 1)) x4 x5).2.2.2.1), .int .i64 ((ih (IntKind.i64.wrap (x0 + (IntKind.i64.wrap (((r53 ((x4.getD (Int.toNat x3) []).getD 0 0)).2) - ((r53 ((x4.getD (Int.toNat x3) []).getD 0 0)).1))))) (IntKind.i64.wrap (x1 + 1)) x2 (IntKind.i64.wrap (x3 + 1)) x4 x5).2.2.2.2)], ⟨[⟨true, (some (.cells [wsl 2, wsl 1]))⟩, ⟨true, (some (.tab [.int .i8, .int .i16, .fl .f32] x4))⟩, ⟨true, (some (.strs x5))⟩], 3, []⟩))
                  none))))))
            (cond (decide ((x0 : Int) < ((r53 ((x4.getD (Int.toNat x3) []).getD 0 0)).1)))
             (a16l1 x0 x1 x2 x3 x4 x5 (0, x0, (IntKind.i64.wrap (x1 + 1)), 0, 0))
             (cond (decide (((IntKind.i64.wrap (x0 + (IntKind.i64.wrap (((r53 ((x4.getD (Int.toNat x3) []).getD 0 0)).2) - ((r53 ((x4.getD (Int.toNat x3) []).getD 0 0)).1))))) : Int) > 20))
              (a16l1 x0 x1 x2 x3 x4 x5 (0, (IntKind.i64.wrap (x0 + (IntKind.i64.wrap (((r53 ((x4.getD (Int.toNat x3) []).getD 0 0)).2) - ((r53 ((x4.getD (Int.toNat x3) []).getD 0 0)).1))))), (IntKind.i64.wrap (x1 + 1)), 0, 0))
              (cond ((((x4.getD (Int.toNat x3) []).getD 0 0) : Int) == 4)
               (cond (((IntKind.i64.wrap (x0 + (IntKind.i64.wrap (((r53 ((x4.getD (Int.toNat x3) []).getD 0 0)).2) - ((r53 ((x4.getD (Int.toNat x3) []).getD 0 0)).1))))) : Int) != 0)
                (a16l1 x0 x1 x2 x3 x4 x5 (0, (IntKind.i64.wrap (x0 + (IntKind.i64.wrap (((r53 ((x4.getD (Int.toNat x3) []).getD 0 0)).2) - ((r53 ((x4.getD (Int.toNat x3) []).getD 0 0)).1))))), (IntKind.i64.wrap (x1 + 1)), 0, 0))
                (u16l1 x0 x1 x2 x3 x4 x5 (ih (IntKind.i64.wrap (x0 + (IntKind.i64.wrap (((r53 ((x4.getD (Int.toNat x3) []).getD 0 0)).2) - ((r53 ((x4.getD (Int.toNat x3) []).getD 0 0)).1))))) (IntKind.i64.wrap (x1 + 1)) x2 (IntKind.i64.wrap (x3 + 1)) x4 x5)))
               (cond (Nat.beq ((ih (IntKind.i64.wrap (x0 + (IntKind.i64.wrap (((r53 ((x4.getD (Int.toNat x3) []).getD 0 0)).2) - ((r53 ((x4.getD (Int.toNat x3) []).getD 0 0)).1))))) (IntKind.i64.wrap (x1 + 1)) x2 (IntKind.i64.wrap (x3 + 1)) x4 x5).1) 0)
                (some (.ret, frameOf 161 [1, 2, 5, 6] [.pointer (some ⟨0, 0, some 0⟩), .bool false, .int .i64 ((ih (IntKind.i64.wrap (x0 + (IntKind.i64.wrap (((r53 ((x4.getD (Int.toNat x3) []).getD 0 0)).2) - ((r53 ((x4.getD (Int.toNat x3) []).getD 0 0)).1))))) (IntKind.i64.wrap (x1 + 1)) x2 (IntKind.i64.wrap (x3 + 1)) x4 x5).2.1), .int .i64 ((ih (IntKind.i64.wrap (x0 + (IntKind.i64.wrap (((r53 ((x4.getD (Int.toNat x3) []).getD 0 0)).2) - ((r53 ((x4.getD (Int.toNat x3) []).getD 0 0)).1))))) (IntKind.i64.wrap (x1 + 1)) x2 (IntKind.i64.wrap (x3 + 1)) x4 x5).2.2.1)], ⟨[⟨true, (some (.cells [wsl 2, wsl 1]))⟩, ⟨true, (some (.tab [.int .i8, .int .i16, .fl .f32] x4))⟩, ⟨true, (some (.strs x5))⟩], 3, []⟩))
                (cond (Nat.beq ((ih (IntKind.i64.wrap (x0 + (IntKind.i64.wrap (((r53 ((x4.getD (Int.toNat x3) []).getD 0 0)).2) - ((r53 ((x4.getD (Int.toNat x3) []).getD 0 0)).1))))) (IntKind.i64.wrap (x1 + 1)) x2 (IntKind.i64.wrap (x3 + 1)) x4 x5).1) 1)
                 (some (.exit 2, frameOf 161 [1, 2, 5, 6] [.pointer (some ⟨0, 0, some 0⟩), anyV, .int .i64 ((ih (IntKind.i64.wrap (x0 + (IntKind.i64.wrap (((r53 ((x4.getD (Int.toNat x3) []).getD 0 0)).2) - ((r53 ((x4.getD (Int.toNat x3) []).getD 0 0)).1))))) (IntKind.i64.wrap (x1 + 1)) x2 (IntKind.i64.wrap (x3 + 1)) x4 x5).2.2.2.1), .int .i64 ((ih (IntKind.i64.wrap (x0 + (IntKind.i64.wrap (((r53 ((x4.getD (Int.toNat x3) []).getD 0 0)).2) - ((r53 ((x4.getD (Int.toNat x3) []).getD 0 0)).1))))) (IntKind.i64.wrap (x1 + 1)) x2 (IntKind.i64.wrap (x3 + 1)) x4 x5).2.2.2.2)], ⟨[⟨true, (some (.cells [wsl 2, wsl 1]))⟩, ⟨true, (some (.tab [.int .i8, .int .i16, .fl .f32] x4))⟩, ⟨true, (some (.strs x5))⟩], 3, []⟩))
                 none))))))))
         (cond (((IntKind.i64.wrap ((x4.getD (Int.toNat x3) []).getD 1 0)) : Int) != 0)
          (a16l1 x0 x1 x2 x3 x4 x5 (0, x0, x1, 0, 0))
          (cond ((((x4.getD (Int.toNat x3) []).getD 0 0) : Int) != 1)
           (cond (!(r52 (Int.toNat ((x4.getD (Int.toNat x3) []).getD 2 0))))
            (a16l1 x0 x1 x2 x3 x4 x5 (0, x0, x1, 0, 0))
            (cond (decide ((x0 : Int) < ((r53 ((x4.getD (Int.toNat x3) []).getD 0 0)).1)))
             (a16l1 x0 x1 x2 x3 x4 x5 (0, x0, x1, 0, 0))
             (cond (decide (((IntKind.i64.wrap (x0 + (IntKind.i64.wrap (((r53 ((x4.getD (Int.toNat x3) []).getD 0 0)).2) - ((r53 ((x4.getD (Int.toNat x3) []).getD 0 0)).1))))) : Int) > 20))
              (a16l1 x0 x1 x2 x3 x4 x5 (0, (IntKind.i64.wrap (x0 + (IntKind.i64.wrap (((r53 ((x4.getD (Int.toNat x3) []).getD 0 0)).2) - ((r53 ((x4.getD (Int.toNat x3) []).getD 0 0)).1))))), x1, 0, 0))
              (cond ((((x4.getD (Int.toNat x3) []).getD 0 0) : Int) == 4)
               (cond (((IntKind.i64.wrap (x0 + (IntKind.i64.wrap (((r53 ((x4.getD (Int.toNat x3) []).getD 0 0)).2) - ((r53 ((x4.getD (Int.toNat x3) []).getD 0 0)).1))))) : Int) != 0)
                (some (.ret, frameOf 161 [1, 2, 5, 6] [.pointer (some ⟨0, 0, some 0⟩), .bool false, .int .i64 (IntKind.i64.wrap (x0 + (IntKind.i64.wrap (((r53 ((x4.getD (Int.toNat x3) []).getD 0 0)).2) - ((r53 ((x4.getD (Int.toNat x3) []).getD 0 0)).1))))), .int .i64 x1], ⟨[⟨true, (some (.cells [wsl 2, wsl 1]))⟩, ⟨true, (some (.tab [.int .i8, .int .i16, .fl .f32] x4))⟩, ⟨true, (some (.strs x5))⟩], 3, []⟩))
                (cond (Nat.beq ((ih (IntKind.i64.wrap (x0 + (IntKind.i64.wrap (((r53 ((x4.getD (Int.toNat x3) []).getD 0 0)).2) - ((r53 ((x4.getD (Int.toNat x3) []).getD 0 0)).1))))) x1 x2 (IntKind.i64.wrap (x3 + 1)) x4 x5).1) 0)
                 (some (.ret, frameOf 161 [1, 2, 5, 6] [.pointer (some ⟨0, 0, some 0⟩), .bool false, .int .i64 ((ih (IntKind.i64.wrap (x0 + (IntKind.i64.wrap (((r53 ((x4.getD (Int.toNat x3) []).getD 0 0)).2) - ((r53 ((x4.getD (Int.toNat x3) []).getD 0 0)).1))))) x1 x2 (IntKind.i64.wrap (x3 + 1)) x4 x5).2.1), .int .i64 ((ih (IntKind.i64.wrap (x0 + (IntKind.i64.wrap (((r53 ((x4.getD (Int.toNat x3) []).getD 0 0)).2) - ((r53 ((x4.getD (Int.toNat x3) []).getD 0 0)).1))))) x1 x2 (IntKind.i64.wrap (x3 + 1)) x4 x5).2.2.1)], ⟨[⟨true, (some (.cells [wsl 2, wsl 1]))⟩, ⟨true, (some (.tab [.int .i8, .int .i16, .fl .f32] x4))⟩, ⟨true, (some (.strs x5))⟩], 3, []⟩))
                 (cond (Nat.beq ((ih (IntKind.i64.wrap (x0 + (IntKind.i64.wrap (((r53 ((x4.getD (Int.toNat x3) []).getD 0 0)).2) - ((r53 ((x4.getD (Int.toNat x3) []).getD 0 0)).1))))) x1 x2 (IntKind.i64.wrap (x3 + 1)) x4 x5).1) 1)
                  (some (.exit 2, frameOf 161 [1, 2, 5, 6] [.pointer (some ⟨0, 0, some 0⟩), anyV, .int .i64 ((ih (IntKind.i64.wrap (x0 + (IntKind.i64.wrap (((r53 ((x4.getD (Int.toNat x3) []).getD 0 0)).2) - ((r53 ((x4.getD (Int.toNat x3) []).getD 0 0)).1))))) x1 x2 (IntKind.i64.wrap (x3 + 1)) x4 x5).2.2.2.1), .int .i64 ((ih (IntKind.i64.wrap (x0 + (IntKind.i64.wrap (((r53 ((x4.getD (Int.toNat x3) []).getD 0 0)).2) - ((r53 ((x4.getD (Int.toNat x3) []).getD 0 0)).1))))) x1 x2 (IntKind.i64.wrap (x3 + 1)) x4 x5).2.2.2.2)], ⟨[⟨true, (some (.cells [wsl 2, wsl 1]))⟩, ⟨true, (some (.tab [.int .i8, .int .i16, .fl .f32] x4))⟩, ⟨true, (some (.strs x5))⟩], 3, []⟩))
                  none)))
               (u16l1 x0 x1 x2 x3 x4 x5 (ih (IntKind.i64.wrap (x0 + (IntKind.i64.wrap (((r53 ((x4.getD (Int.toNat x3) []).getD 0 0)).2) - ((r53 ((x4.getD (Int.toNat x3) []).getD 0 0)).1))))) x1 x2 (IntKind.i64.wrap (x3 + 1)) x4 x5))))))
           (cond (decide ((x0 : Int) < ((r53 ((x4.getD (Int.toNat x3) []).getD 0 0)).1)))
            (a16l1 x0 x1 x2 x3 x4 x5 (0, x0, x1, 0, 0))
            (cond (decide (((IntKind.i64.wrap (x0 + (IntKind.i64.wrap (((r53 ((x4.getD (Int.toNat x3) []).getD 0 0)).2) - ((r53 ((x4.getD (Int.toNat x3) []).getD 0 0)).1))))) : Int) > 20))
             (a16l1 x0 x1 x2 x3 x4 x5 (0, (IntKind.i64.wrap (x0 + (IntKind.i64.wrap (((r53 ((x4.getD (Int.toNat x3) []).getD 0 0)).2) - ((r53 ((x4.getD (Int.toNat x3) []).getD 0 0)).1))))), x1, 0, 0))
             (cond ((((x4.getD (Int.toNat x3) []).getD 0 0) : Int) == 4)
              (cond (((IntKind.i64.wrap (x0 + (IntKind.i64.wrap (((r53 ((x4.getD (Int.toNat x3) []).getD 0 0)).2) - ((r53 ((x4.getD (Int.toNat x3) []).getD 0 0)).1))))) : Int) != 0)
               (some (.ret, frameOf 161 [1, 2, 5, 6] [.pointer (some ⟨0, 0, some 0⟩), .bool false, .int .i64 (IntKind.i64.wrap (x0 + (IntKind.i64.wrap (((r53 ((x4.getD (Int.toNat x3) []).getD 0 0)).2) - ((r53 ((x4.getD (Int.toNat x3) []).getD 0 0)).1))))), .int .i64 x1], ⟨[⟨true, (some (.cells [wsl 2, wsl 1]))⟩, ⟨true, (some (.tab [.int .i8, .int .i16, .fl .f32] x4))⟩, ⟨true, (some (.strs x5))⟩], 3, []⟩))
               (cond (Nat.beq ((ih (IntKind.i64.wrap (x0 + (IntKind.i64.wrap (((r53 ((x4.getD (Int.toNat x3) []).getD 0 0)).2) - ((r53 ((x4.getD (Int.toNat x3) []).getD 0 0)).1))))) x1 x2 (IntKind.i64.wrap (x3 + 1)) x4 x5).1) 0)
                (some (.ret, frameOf 161 [1, 2, 5, 6] [.pointer (some ⟨0, 0, some 0⟩), .bool false, .int .i64 ((ih (IntKind.i64.wrap (x0 + (IntKind.i64.wrap (((r53 ((x4.getD (Int.toNat x3) []).getD 0 0)).2) - ((r53 ((x4.getD (Int.toNat x3) []).getD 0 0)).1))))) x1 x2 (IntKind.i64.wrap (x3 + 1)) x4 x5).2.1), .int .i64 ((ih (IntKind.i64.wrap (x0 + (IntKind.i64.wrap (((r53 ((x4.getD (Int.toNat x3) []).getD 0 0)).2) - ((r53 ((x4.getD (Int.toNat x3) []).getD 0 0)).1))))) x1 x2 (IntKind.i64.wrap (x3 + 1)) x4 x5).2.2.1)], ⟨[⟨true, (some (.cells [wsl 2, wsl 1]))⟩, ⟨true, (some (.tab [.int .i8, .int .i16, .fl .f32] x4))⟩, ⟨true, (some (.strs x5))⟩], 3, []⟩))
                (cond (Nat.beq ((ih (IntKind.i64.wrap (x0 + (IntKind.i64.wrap (((r53 ((x4.getD (Int.toNat x3) []).getD 0 0)).2) - ((r53 ((x4.getD (Int.toNat x3) []).getD 0 0)).1))))) x1 x2 (IntKind.i64.wrap (x3 + 1)) x4 x5).1) 1)
                 (some (.exit 2, frameOf 161 [1, 2, 5, 6] [.pointer (some ⟨0, 0, some 0⟩), anyV, .int .i64 ((ih (IntKind.i64.wrap (x0 + (IntKind.i64.wrap (((r53 ((x4.getD (Int.toNat x3) []).getD 0 0)).2) - ((r53 ((x4.getD (Int.toNat x3) []).getD 0 0)).1))))) x1 x2 (IntKind.i64.wrap (x3 + 1)) x4 x5).2.2.2.1), .int .i64 ((ih (IntKind.i64.wrap (x0 + (IntKind.i64.wrap (((r53 ((x4.getD (Int.toNat x3) []).getD 0 0)).2) - ((r53 ((x4.getD (Int.toNat x3) []).getD 0 0)).1))))) x1 x2 (IntKind.i64.wrap (x3 + 1)) x4 x5).2.2.2.2)], ⟨[⟨true, (some (.cells [wsl 2, wsl 1]))⟩, ⟨true, (some (.tab [.int .i8, .int .i16, .fl .f32] x4))⟩, ⟨true, (some (.strs x5))⟩], 3, []⟩))
                 none)))
              (u16l1 x0 x1 x2 x3 x4 x5 (ih (IntKind.i64.wrap (x0 + (IntKind.i64.wrap (((r53 ((x4.getD (Int.toNat x3) []).getD 0 0)).2) - ((r53 ((x4.getD (Int.toNat x3) []).getD 0 0)).1))))) x1 x2 (IntKind.i64.wrap (x3 + 1)) x4 x5)))))))))))))
   none)
  none)
 (a16l1 x0 x1 x2 x3 x4 x5 (1, 0, 0, x0, x1)))
set_option maxRecDepth 100000 in
set_option maxHeartbeats 4000000 in
theorem e16l1 (m : Nat) (x0 x1 x2 x3 : Int) (x4 : List (List Int)) (x5 : List ByteArray) : evC Try.prog ext T48 L16_1 200 (loopN Try.f16 1) (loopTail ([1, 5, 6, 43, 44, 45], []) [1, 2, 5, 6] [] (sumK 161 [1, 5, 6, 43, 44, 45] [1, 2, 5, 6] (q16l1 m))) (frameOf 161 [1, 5, 6, 43, 44, 45] [.pointer (some ⟨0, 0, some 0⟩), .int .i64 x0, .int .i64 x1, wsl 1, .int .i64 x2, .int .i64 x3]) ⟨[⟨true, (some (.cells [wsl 2, wsl 1]))⟩, ⟨true, (some (.tab [.int .i8, .int .i16, .fl .f32] x4))⟩, ⟨true, (some (.strs x5))⟩], 3, []⟩ = firstT ([((Nat.beq ((r16l1 (m + 1) x0 x1 x2 x3 x4 x5).1) 0), .ret, [.pointer (some ⟨0, 0, some 0⟩), .bool false, .int .i64 ((r16l1 (m + 1) x0 x1 x2 x3 x4 x5).2.1), .int .i64 ((r16l1 (m + 1) x0 x1 x2 x3 x4 x5).2.2.1)], ⟨[⟨true, (some (.cells [wsl 2, wsl 1]))⟩, ⟨true, (some (.tab [.int .i8, .int .i16, .fl .f32] x4))⟩, ⟨true, (some (.strs x5))⟩], 3, []⟩), ((Nat.beq ((r16l1 (m + 1) x0 x1 x2 x3 x4 x5).1) 1), .exit 2, [.pointer (some ⟨0, 0, some 0⟩), anyV, .int .i64 ((r16l1 (m + 1) x0 x1 x2 x3 x4 x5).2.2.2.1), .int .i64 ((r16l1 (m + 1) x0 x1 x2 x3 x4 x5).2.2.2.2)], ⟨[⟨true, (some (.cells [wsl 2, wsl 1]))⟩, ⟨true, (some (.tab [.int .i8, .int .i16, .fl .f32] x4))⟩, ⟨true, (some (.strs x5))⟩], 3, []⟩)].map fun (b, x) => (b, (x.1, frameOf 161 [1, 2, 5, 6] x.2.1, x.2.2))) :=
 (show evC Try.prog ext T48 L16_1 200 (loopN Try.f16 1) (loopTail ([1, 5, 6, 43, 44, 45], []) [1, 2, 5, 6] [] (sumK 161 [1, 5, 6, 43, 44, 45] [1, 2, 5, 6] (q16l1 m))) (frameOf 161 [1, 5, 6, 43, 44, 45] [.pointer (some ⟨0, 0, some 0⟩), .int .i64 x0, .int .i64 x1, wsl 1, .int .i64 x2, .int .i64 x3]) ⟨[⟨true, (some (.cells [wsl 2, wsl 1]))⟩, ⟨true, (some (.tab [.int .i8, .int .i16, .fl .f32] x4))⟩, ⟨true, (some (.strs x5))⟩], 3, []⟩ = w16l1 (r16l1 m) x0 x1 x2 x3 x4 x5 from by kernel_rfl).trans
 (show w16l1 (r16l1 m) x0 x1 x2 x3 x4 x5 = a16l1 x0 x1 x2 x3 x4 x5 (r16l1 (m + 1) x0 x1 x2 x3 x4 x5) from by unfold w16l1; show _ = a16l1 x0 x1 x2 x3 x4 x5 (b16l1 (r16l1 m) x0 x1 x2 x3 x4 x5); unfold b16l1; exact (cond_both (a16l1 x0 x1 x2 x3 x4 x5) _ (fun h0 => (cond_both (a16l1 x0 x1 x2 x3 x4 x5) _ (fun h1 => (cond_t (ev_and2 h1) (cond_both (a16l1 x0 x1 x2 x3 x4 x5) _ (fun h2 => rfl) (fun h2 => (cond_both (a16l1 x0 x1 x2 x3 x4 x5) _ (fun h3 => rfl) (fun h3 => (cond_both (a16l1 x0 x1 x2 x3 x4 x5) _ (fun h4 => (cond_both (a16l1 x0 x1 x2 x3 x4 x5) _ (fun h5 => rfl) (fun h5 => (cond_both (a16l1 x0 x1 x2 x3 x4 x5) _ (fun h6 => rfl) (fun h6 => (cond_both (a16l1 x0 x1 x2 x3 x4 x5) _ (fun h7 => (cond_both (a16l1 x0 x1 x2 x3 x4 x5) _ (fun h8 => rfl) (fun h8 => (cond_both (a16l1 x0 x1 x2 x3 x4 x5) _ (fun h9 => (cond_f (ev_not0 (ev_notf h8)) (cond_app (a16l1 x0 x1 x2 x3 x4 x5) _ rfl (cond_app (a16l1 x0 x1 x2 x3 x4 x5) _ rfl (cond_app (a16l1 x0 x1 x2 x3 x4 x5) _ (cond_app (a16l1 x0 x1 x2 x3 x4 x5) _ rfl (v16l1 x0 x1 x2 x3 x4 x5 ((r16l1 m) (IntKind.i64.wrap (x0 + (IntKind.i64.wrap (((r53 ((x4.getD (Int.toNat x3) []).getD 0 0)).2) - ((r53 ((x4.getD (Int.toNat x3) []).getD 0 0)).1))))) x1 x2 (IntKind.i64.wrap (x3 + 1)) x4 x5))) (v16l1 x0 x1 x2 x3 x4 x5 ((r16l1 m) (IntKind.i64.wrap (x0 + (IntKind.i64.wrap (((r53 ((x4.getD (Int.toNat x3) []).getD 0 0)).2) - ((r53 ((x4.getD (Int.toNat x3) []).getD 0 0)).1))))) x1 x2 (IntKind.i64.wrap (x3 + 1)) x4 x5))))))) (fun h9 => (cond_app (a16l1 x0 x1 x2 x3 x4 x5) _ rfl (cond_app (a16l1 x0 x1 x2 x3 x4 x5) _ rfl (cond_app (a16l1 x0 x1 x2 x3 x4 x5) _ (cond_app (a16l1 x0 x1 x2 x3 x4 x5) _ rfl (v16l1 x0 x1 x2 x3 x4 x5 ((r16l1 m) (IntKind.i64.wrap (x0 + (IntKind.i64.wrap (((r53 ((x4.getD (Int.toNat x3) []).getD 0 0)).2) - ((r53 ((x4.getD (Int.toNat x3) []).getD 0 0)).1))))) x1 x2 (IntKind.i64.wrap (x3 + 1)) x4 x5))) (v16l1 x0 x1 x2 x3 x4 x5 ((r16l1 m) (IntKind.i64.wrap (x0 + (IntKind.i64.wrap (((r53 ((x4.getD (Int.toNat x3) []).getD 0 0)).2) - ((r53 ((x4.getD (Int.toNat x3) []).getD 0 0)).1))))) x1 x2 (IntKind.i64.wrap (x3 + 1)) x4 x5)))))))))) (fun h7 => (cond_app (a16l1 x0 x1 x2 x3 x4 x5) _ (cond_app (a16l1 x0 x1 x2 x3 x4 x5) _ rfl (cond_app (a16l1 x0 x1 x2 x3 x4 x5) _ rfl (cond_app (a16l1 x0 x1 x2 x3 x4 x5) _ rfl (cond_app (a16l1 x0 x1 x2 x3 x4 x5) _ (cond_app (a16l1 x0 x1 x2 x3 x4 x5) _ rfl (v16l1 x0 x1 x2 x3 x4 x5 ((r16l1 m) (IntKind.i64.wrap (x0 + (IntKind.i64.wrap (((r53 ((x4.getD (Int.toNat x3) []).getD 0 0)).2) - ((r53 ((x4.getD (Int.toNat x3) []).getD 0 0)).1))))) x1 x2 (IntKind.i64.wrap (x3 + 1)) x4 x5))) (v16l1 x0 x1 x2 x3 x4 x5 ((r16l1 m) (IntKind.i64.wrap (x0 + (IntKind.i64.wrap (((r53 ((x4.getD (Int.toNat x3) []).getD 0 0)).2) - ((r53 ((x4.getD (Int.toNat x3) []).getD 0 0)).1))))) x1 x2 (IntKind.i64.wrap (x3 + 1)) x4 x5)))))) (cond_app (a16l1 x0 x1 x2 x3 x4 x5) _ rfl (cond_app (a16l1 x0 x1 x2 x3 x4 x5) _ rfl (cond_app (a16l1 x0 x1 x2 x3 x4 x5) _ (cond_app (a16l1 x0 x1 x2 x3 x4 x5) _ rfl (v16l1 x0 x1 x2 x3 x4 x5 ((r16l1 m) (IntKind.i64.wrap (x0 + (IntKind.i64.wrap (((r53 ((x4.getD (Int.toNat x3) []).getD 0 0)).2) - ((r53 ((x4.getD (Int.toNat x3) []).getD 0 0)).1))))) x1 x2 (IntKind.i64.wrap (x3 + 1)) x4 x5))) (v16l1 x0 x1 x2 x3 x4 x5 ((r16l1 m) (IntKind.i64.wrap (x0 + (IntKind.i64.wrap (((r53 ((x4.getD (Int.toNat x3) []).getD 0 0)).2) - ((r53 ((x4.getD (Int.toNat x3) []).getD 0 0)).1))))) x1 x2 (IntKind.i64.wrap (x3 + 1)) x4 x5))))))))))))) (fun h4 => (cond_both (a16l1 x0 x1 x2 x3 x4 x5) _ (fun h5 => (cond_app (a16l1 x0 x1 x2 x3 x4 x5) _ rfl (cond_app (a16l1 x0 x1 x2 x3 x4 x5) _ rfl (cond_app (a16l1 x0 x1 x2 x3 x4 x5) _ (cond_app (a16l1 x0 x1 x2 x3 x4 x5) _ rfl (cond_app (a16l1 x0 x1 x2 x3 x4 x5) _ rfl (cond_app (a16l1 x0 x1 x2 x3 x4 x5) _ rfl (cond_app (a16l1 x0 x1 x2 x3 x4 x5) _ (cond_app (a16l1 x0 x1 x2 x3 x4 x5) _ rfl (v16l1 x0 x1 x2 x3 x4 x5 ((r16l1 m) (IntKind.i64.wrap (x0 + (IntKind.i64.wrap (((r53 ((x4.getD (Int.toNat x3) []).getD 0 0)).2) - ((r53 ((x4.getD (Int.toNat x3) []).getD 0 0)).1))))) x1 x2 (IntKind.i64.wrap (x3 + 1)) x4 x5))) (v16l1 x0 x1 x2 x3 x4 x5 ((r16l1 m) (IntKind.i64.wrap (x0 + (IntKind.i64.wrap (((r53 ((x4.getD (Int.toNat x3) []).getD 0 0)).2) - ((r53 ((x4.getD (Int.toNat x3) []).getD 0 0)).1))))) x1 x2 (IntKind.i64.wrap (x3 + 1)) x4 x5)))))) (cond_app (a16l1 x0 x1 x2 x3 x4 x5) _ rfl (cond_app (a16l1 x0 x1 x2 x3 x4 x5) _ rfl (cond_app (a16l1 x0 x1 x2 x3 x4 x5) _ (cond_app (a16l1 x0 x1 x2 x3 x4 x5) _ rfl (v16l1 x0 x1 x2 x3 x4 x5 ((r16l1 m) (IntKind.i64.wrap (x0 + (IntKind.i64.wrap (((r53 ((x4.getD (Int.toNat x3) []).getD 0 0)).2) - ((r53 ((x4.getD (Int.toNat x3) []).getD 0 0)).1))))) x1 x2 (IntKind.i64.wrap (x3 + 1)) x4 x5))) (v16l1 x0 x1 x2 x3 x4 x5 ((r16l1 m) (IntKind.i64.wrap (x0 + (IntKind.i64.wrap (((r53 ((x4.getD (Int.toNat x3) []).getD 0 0)).2) - ((r53 ((x4.getD (Int.toNat x3) []).getD 0 0)).1))))) x1 x2 (IntKind.i64.wrap (x3 + 1)) x4 x5))))))))) (fun h5 => (cond_both (a16l1 x0 x1 x2 x3 x4 x5) _ (fun h6 => (cond_app (a16l1 x0 x1 x2 x3 x4 x5) _ rfl (cond_app (a16l1 x0 x1 x2 x3 x4 x5) _ rfl (cond_app (a16l1 x0 x1 x2 x3 x4 x5) _ (cond_app (a16l1 x0 x1 x2 x3 x4 x5) _ rfl (cond_app (a16l1 x0 x1 x2 x3 x4 x5) _ rfl (cond_app (a16l1 x0 x1 x2 x3 x4 x5) _ rfl (cond_app (a16l1 x0 x1 x2 x3 x4 x5) _ (cond_app (a16l1 x0 x1 x2 x3 x4 x5) _ rfl (v16l1 x0 x1 x2 x3 x4 x5 ((r16l1 m) (IntKind.i64.wrap (x0 + (IntKind.i64.wrap (((r53 ((x4.getD (Int.toNat x3) []).getD 0 0)).2) - ((r53 ((x4.getD (Int.toNat x3) []).getD 0 0)).1))))) x1 x2 (IntKind.i64.wrap (x3 + 1)) x4 x5))) (v16l1 x0 x1 x2 x3 x4 x5 ((r16l1 m) (IntKind.i64.wrap (x0 + (IntKind.i64.wrap (((r53 ((x4.getD (Int.toNat x3) []).getD 0 0)).2) - ((r53 ((x4.getD (Int.toNat x3) []).getD 0 0)).1))))) x1 x2 (IntKind.i64.wrap (x3 + 1)) x4 x5)))))) (cond_app (a16l1 x0 x1 x2 x3 x4 x5) _ rfl (cond_app (a16l1 x0 x1 x2 x3 x4 x5) _ rfl (cond_app (a16l1 x0 x1 x2 x3 x4 x5) _ (cond_app (a16l1 x0 x1 x2 x3 x4 x5) _ rfl (v16l1 x0 x1 x2 x3 x4 x5 ((r16l1 m) (IntKind.i64.wrap (x0 + (IntKind.i64.wrap (((r53 ((x4.getD (Int.toNat x3) []).getD 0 0)).2) - ((r53 ((x4.getD (Int.toNat x3) []).getD 0 0)).1))))) x1 x2 (IntKind.i64.wrap (x3 + 1)) x4 x5))) (v16l1 x0 x1 x2 x3 x4 x5 ((r16l1 m) (IntKind.i64.wrap (x0 + (IntKind.i64.wrap (((r53 ((x4.getD (Int.toNat x3) []).getD 0 0)).2) - ((r53 ((x4.getD (Int.toNat x3) []).getD 0 0)).1))))) x1 x2 (IntKind.i64.wrap (x3 + 1)) x4 x5))))))))) (fun h6 => (cond_both (a16l1 x0 x1 x2 x3 x4 x5) _ (fun h7 => (cond_both (a16l1 x0 x1 x2 x3 x4 x5) _ (fun h8 => rfl) (fun h8 => (cond_both (a16l1 x0 x1 x2 x3 x4 x5) _ (fun h9 => rfl) (fun h9 => (cond_both (a16l1 x0 x1 x2 x3 x4 x5) _ (fun h10 => (cond_both (a16l1 x0 x1 x2 x3 x4 x5) _ (fun h11 => rfl) (fun h11 => (cond_both (a16l1 x0 x1 x2 x3 x4 x5) _ (fun h12 => rfl) (fun h12 => (cond_both (a16l1 x0 x1 x2 x3 x4 x5) _ (fun h13 => rfl) (fun h13 => (cond_t h7 (cond_app (a16l1 x0 x1 x2 x3 x4 x5) _ rfl (v16l1 x0 x1 x2 x3 x4 x5 ((r16l1 m) (IntKind.i64.wrap (x0 + (IntKind.i64.wrap (((r53 ((x4.getD (Int.toNat x3) []).getD 0 0)).2) - ((r53 ((x4.getD (Int.toNat x3) []).getD 0 0)).1))))) (IntKind.i64.wrap (x1 + 1)) x2 (IntKind.i64.wrap (x3 + 1)) x4 x5))))))))))) (fun h10 => (cond_both (a16l1 x0 x1 x2 x3 x4 x5) _ (fun h11 => rfl) (fun h11 => (cond_both (a16l1 x0 x1 x2 x3 x4 x5) _ (fun h12 => rfl) (fun h12 => (cond_t h7 (cond_app (a16l1 x0 x1 x2 x3 x4 x5) _ rfl (v16l1 x0 x1 x2 x3 x4 x5 ((r16l1 m) (IntKind.i64.wrap (x0 + (IntKind.i64.wrap (((r53 ((x4.getD (Int.toNat x3) []).getD 0 0)).2) - ((r53 ((x4.getD (Int.toNat x3) []).getD 0 0)).1))))) (IntKind.i64.wrap (x1 + 1)) x2 (IntKind.i64.wrap (x3 + 1)) x4 x5))))))))))))))) (fun h7 => (cond_both (a16l1 x0 x1 x2 x3 x4 x5) _ (fun h8 => rfl) (fun h8 => (cond_both (a16l1 x0 x1 x2 x3 x4 x5) _ (fun h9 => (cond_both (a16l1 x0 x1 x2 x3 x4 x5) _ (fun h10 => rfl) (fun h10 => (cond_both (a16l1 x0 x1 x2 x3 x4 x5) _ (fun h11 => rfl) (fun h11 => (cond_both (a16l1 x0 x1 x2 x3 x4 x5) _ (fun h12 => rfl) (fun h12 => (cond_f h7 (v16l1 x0 x1 x2 x3 x4 x5 ((r16l1 m) (IntKind.i64.wrap (x0 + (IntKind.i64.wrap (((r53 ((x4.getD (Int.toNat x3) []).getD 0 0)).2) - ((r53 ((x4.getD (Int.toNat x3) []).getD 0 0)).1))))) x1 x2 (IntKind.i64.wrap (x3 + 1)) x4 x5)))))))))) (fun h9 => (cond_both (a16l1 x0 x1 x2 x3 x4 x5) _ (fun h10 => rfl) (fun h10 => (cond_both (a16l1 x0 x1 x2 x3 x4 x5) _ (fun h11 => rfl) (fun h11 => (cond_f h7 (v16l1 x0 x1 x2 x3 x4 x5 ((r16l1 m) (IntKind.i64.wrap (x0 + (IntKind.i64.wrap (((r53 ((x4.getD (Int.toNat x3) []).getD 0 0)).2) - ((r53 ((x4.getD (Int.toNat x3) []).getD 0 0)).1))))) x1 x2 (IntKind.i64.wrap (x3 + 1)) x4 x5))))))))))))))))))))))))) (fun h1 => rfl))) (fun h0 => rfl)))
set_option maxRecDepth 100000 in
set_option maxHeartbeats 4000000 in
theorem qm16l1 : ∀ m, SumKOk Try.prog (loopN Try.f16 1) 161 [1, 5, 6, 43, 44, 45] [1, 2, 5, 6] (q16l1 m) := by
  intro m
  induction m with
  | zero =>
    intro vals s x h1 h2 h3
    unfold q16l1 at h3; split at h3
    · rename_i h; split at h3
      · rename_i hc; obtain ⟨rfl, rfl, rfl, rfl, rfl, rfl⟩ := hc; exact absurd h3 (by simp [r16l1, firstT, Nat.beq])
      · exact noQ_ok _ _ _ h1 h2 h3
    · exact noQ_ok _ _ _ h1 h2 h3
  | succ m ih =>
    intro vals s x h1 h2 h3
    unfold q16l1 at h3; split at h3
    · rename_i h; split at h3
      · rename_i hc; obtain ⟨rfl, rfl, rfl, rfl, rfl, rfl⟩ := hc; exact sum_step ok48 extOk mixed (lok16_1.inner (by kernel_rfl)) ih h1 h2 h (e16l1 m _ _ _ _ _ _) rfl h3
      · exact noQ_ok _ _ _ h1 h2 h3
    · exact noQ_ok _ _ _ h1 h2 h3
noncomputable def Q16l1 : SumK := fun vals s => q16l1 (fuelOf vals s.h) vals s
theorem qok16l1 : SumKOk Try.prog (loopN Try.f16 1) 161 [1, 5, 6, 43, 44, 45] [1, 2, 5, 6] Q16l1 := fuel_ok qm16l1 fuelOf
noncomputable def L16_2 : LoopT := addL L16_1 12 ([1, 5, 6, 43, 44, 45], []) (sumK 161 [1, 5, 6, 43, 44, 45] [1, 2, 5, 6] Q16l1)
theorem lok16_2 : LfOkF Try.prog L16_2 Try.f16 := lfOkF_add lok16_1 qok16l1 (by kernel_rfl) (by kernel_rfl) (by kernel_rfl)

/-- impl.ValidProgram -/
noncomputable def r16 (x0 : List ByteArray) (x1 : List (List Int)) : Nat × Bool :=
 cond (decide ((((x0.length : Nat) : Int) : Int) > 12))
  (0, false)
  (cond (decide ((((x1.length : Nat) : Int) : Int) > 300))
   (0, false)
   (cond (Nat.beq (r16l0 (1000 + x1.length + x0.length) ((x0.length : Nat) : Int) 0 x0 x1) 0)
    (0, false)
    (cond (Nat.beq (r16l0 (1000 + x1.length + x0.length) ((x0.length : Nat) : Int) 0 x0 x1) 1)
     (cond (Nat.beq ((r16l1 (1000 + x0.length + x1.length) 0 0 ((x1.length : Nat) : Int) 0 x1 x0).1) 0)
      (0, false)
      (cond (Nat.beq ((r16l1 (1000 + x0.length + x1.length) 0 0 ((x1.length : Nat) : Int) 0 x1 x0).1) 1)
       (cond ((((r16l1 (1000 + x0.length + x1.length) 0 0 ((x1.length : Nat) : Int) 0 x1 x0).2.2.2.1) : Int) == 0)
        (0, ((((r16l1 (1000 + x0.length + x1.length) 0 0 ((x1.length : Nat) : Int) 0 x1 x0).2.2.2.2) : Int) == ((x0.length : Nat) : Int)))
        (0, false))
       (1, false)))
     (1, false))))
noncomputable def a16 (x0 : List ByteArray) (x1 : List (List Int)) (p : Nat × Bool) : Res := firstT [((Nat.beq (p.1) 0), .bool (p.2), ⟨[⟨true, (some (.strs x0))⟩, ⟨true, (some (.tab [.int .i8, .int .i16, .fl .f32] x1))⟩], 2, []⟩)]
noncomputable def w16 (x0 : List ByteArray) (x1 : List (List Int)) : Res :=
 (cond (decide ((((x0.length : Nat) : Int) : Int) > 12))
 (a16 x0 x1 (0, false))
 (cond (decide ((((x1.length : Nat) : Int) : Int) > 300))
  (a16 x0 x1 (0, false))
  (cond (Nat.beq (r16l0 (1000 + x1.length + x0.length) ((x0.length : Nat) : Int) 0 x0 x1) 0)
   (a16 x0 x1 (0, false))
   (cond (Nat.beq (r16l0 (1000 + x1.length + x0.length) ((x0.length : Nat) : Int) 0 x0 x1) 1)
    (cond (Nat.beq ((r16l1 (1000 + x0.length + x1.length) 0 0 ((x1.length : Nat) : Int) 0 x1 x0).1) 0)
     (a16 x0 x1 (0, false))
     (cond (Nat.beq ((r16l1 (1000 + x0.length + x1.length) 0 0 ((x1.length : Nat) : Int) 0 x1 x0).1) 1)
      (cond ((((r16l1 (1000 + x0.length + x1.length) 0 0 ((x1.length : Nat) : Int) 0 x1 x0).2.2.2.1) : Int) == 0)
       (a16 x0 x1 (0, ((((r16l1 (1000 + x0.length + x1.length) 0 0 ((x1.length : Nat) : Int) 0 x1 x0).2.2.2.2) : Int) == ((x0.length : Nat) : Int))))
       (a16 x0 x1 (0, false)))
      none))
    none))))
set_option maxRecDepth 100000 in
set_option maxHeartbeats 4000000 in
theorem e16 (x0 : List ByteArray) (x1 : List (List Int)) : evFn Try.prog ext T48 L16_2 200 Try.f16 [.agg #[wsl 0, wsl 1]] ⟨[⟨true, (some (.strs x0))⟩, ⟨true, (some (.tab [.int .i8, .int .i16, .fl .f32] x1))⟩], 2, []⟩ = firstT [((Nat.beq ((r16 x0 x1).1) 0), .bool ((r16 x0 x1).2), ⟨[⟨true, (some (.strs x0))⟩, ⟨true, (some (.tab [.int .i8, .int .i16, .fl .f32] x1))⟩], 2, []⟩)] :=
 (show evFn Try.prog ext T48 L16_2 200 Try.f16 [.agg #[wsl 0, wsl 1]] ⟨[⟨true, (some (.strs x0))⟩, ⟨true, (some (.tab [.int .i8, .int .i16, .fl .f32] x1))⟩], 2, []⟩ = w16 x0 x1 from by kernel_rfl).trans
 (show w16 x0 x1 = a16 x0 x1 (r16 x0 x1) from by unfold w16 r16; exact (cond_app (a16 x0 x1) _ rfl (cond_app (a16 x0 x1) _ rfl (cond_app (a16 x0 x1) _ rfl (cond_app (a16 x0 x1) _ (cond_app (a16 x0 x1) _ rfl (cond_app (a16 x0 x1) _ (cond_app (a16 x0 x1) _ rfl rfl) rfl)) rfl)))))
noncomputable def s16 (args : List Value) (s : St) : List (Bool × Value × St) :=
 match args, s.h with
 | [.agg ⟨[.iface f0 .nilIface, .iface f1 .nilIface]⟩], [⟨true, some (.strs x0)⟩, ⟨true, some (.tab [.int .i8, .int .i16, .fl .f32] x1)⟩] => if f0 = 0 ∧ f1 = 1 then [((Nat.beq ((r16 x0 x1).1) 0), .bool ((r16 x0 x1).2), ⟨[⟨true, (some (.strs x0))⟩, ⟨true, (some (.tab [.int .i8, .int .i16, .fl .f32] x1))⟩], 2, []⟩)] else T48 16 args s
 | _, _ => T48 16 args s
noncomputable def T49 : CallF := addF T48 16 s16
set_option maxRecDepth 100000 in
set_option maxHeartbeats 4000000 in
theorem ok49 : CfOk Try.prog T49 := by
  refine cfOk_add ok48 fun args s r s' h1 h2 h3 => ?_
  unfold s16 at h3; split at h3
  · rename_i h; split at h3
    · rename_i hc; obtain ⟨rfl, rfl⟩ := hc; exact callOk ok48 Try.func16 h1 h2 h lok16_2.body (e16 _ _) rfl h3
    · exact ok48 _ _ _ _ _ h1 h2 h3
  · exact ok48 _ _ _ _ _ h1 h2 h3

/-- impl.ValidSpan -/
noncomputable def r63 (x0 x1 : Nat) : Bool :=
 ((flt .f32 x0 x1 || feq .f32 x0 x1))
noncomputable def a63 (x0 x1 : Nat) (p : Bool) : Res := firstT [(true, .bool p, st0)]
noncomputable def w63 (x0 x1 : Nat) : Res :=
 (a63 x0 x1 ((flt .f32 x0 x1 || feq .f32 x0 x1)))
set_option maxRecDepth 100000 in
set_option maxHeartbeats 4000000 in
theorem e63 (x0 x1 : Nat) : evFn Try.prog ext T49 noL 200 Try.f63 [.agg #[.float .f32 x0, .float .f32 x1]] st0 = firstT [(true, .bool (r63 x0 x1), st0)] :=
 (show evFn Try.prog ext T49 noL 200 Try.f63 [.agg #[.float .f32 x0, .float .f32 x1]] st0 = w63 x0 x1 from by kernel_rfl).trans
 (show w63 x0 x1 = a63 x0 x1 (r63 x0 x1) from by unfold w63 r63; exact rfl)
noncomputable def s63 (args : List Value) (s : St) : List (Bool × Value × St) :=
 match args, s.h with
 | [.agg ⟨[.float .f32 x0, .float .f32 x1]⟩], [] => [(true, .bool (r63 x0 x1), st0)]
 | _, _ => T49 63 args s
noncomputable def T50 : CallF := addF T49 63 s63
set_option maxRecDepth 100000 in
set_option maxHeartbeats 4000000 in
theorem ok50 : CfOk Try.prog T50 := by
  refine cfOk_add ok49 fun args s r s' h1 h2 h3 => ?_
  unfold s63 at h3; split at h3
  · rename_i h; exact callOk ok49 Try.func63 h1 h2 h (lfOkF_no _ _).body (e63 _ _) rfl h3
  · exact ok49 _ _ _ _ _ h1 h2 h3

/-- impl.isFinite -/
noncomputable def r51b (x0 x1 : Nat) : Bool :=
 cond (r79 (widen x0))
  (false)
  (cond (r80 (widen x0) 0)
   (false)
   (cond (r79 (widen x1))
    (false)
    (cond (r80 (widen x1) 0)
     (false)
     (true))))
noncomputable def a51b (x0 x1 : Nat) (p : Bool) : Res := firstT [(true, .bool p, ⟨[⟨true, (some (.tab [.fl .f32] ([[((x0 : Nat) : Int)], [((x1 : Nat) : Int)]] : List (List Int))))⟩], 1, []⟩)]
noncomputable def w51b (x0 x1 : Nat) : Res :=
 (cond (r79 (widen x0))
 (a51b x0 x1 (false))
 (cond (r80 (widen x0) 0)
  (a51b x0 x1 (false))
  (cond (r79 (widen x1))
   (a51b x0 x1 (false))
   (cond (r80 (widen x1) 0)
    (a51b x0 x1 (false))
    (a51b x0 x1 (true))))))
set_option maxRecDepth 100000 in
set_option maxHeartbeats 4000000 in
theorem e51b (x0 x1 : Nat) : evFn Try.prog ext T50 noL 200 Try.f51 [.slice (some ⟨0, 0, some 0⟩) 2 2] ⟨[⟨true, (some (.tab [.fl .f32] ([[((x0 : Nat) : Int)], [((x1 : Nat) : Int)]] : List (List Int))))⟩], 1, []⟩ = firstT [(true, .bool (r51b x0 x1), ⟨[⟨true, (some (.tab [.fl .f32] ([[((x0 : Nat) : Int)], [((x1 : Nat) : Int)]] : List (List Int))))⟩], 1, []⟩)] :=
 (show evFn Try.prog ext T50 noL 200 Try.f51 [.slice (some ⟨0, 0, some 0⟩) 2 2] ⟨[⟨true, (some (.tab [.fl .f32] ([[((x0 : Nat) : Int)], [((x1 : Nat) : Int)]] : List (List Int))))⟩], 1, []⟩ = w51b x0 x1 from by kernel_rfl).trans
 (show w51b x0 x1 = a51b x0 x1 (r51b x0 x1) from by unfold w51b r51b; exact (cond_app (a51b x0 x1) _ rfl (cond_app (a51b x0 x1) _ rfl (cond_app (a51b x0 x1) _ rfl (cond_app (a51b x0 x1) _ rfl rfl)))))
noncomputable def s51b (args : List Value) (s : St) : List (Bool × Value × St) :=
 match args, s.h with
 | [.slice (some ⟨f0, f1, some f2⟩) f3 f4], [⟨true, some (.tab [.fl .f32] [[.ofNat x0], [.ofNat x1]])⟩] => if f0 = 0 ∧ f1 = 0 ∧ f2 = 0 ∧ f3 = 2 ∧ f4 = 2 then [(true, .bool (r51b x0 x1), ⟨[⟨true, (some (.tab [.fl .f32] ([[((x0 : Nat) : Int)], [((x1 : Nat) : Int)]] : List (List Int))))⟩], 1, []⟩)] else T50 51 args s
 | _, _ => T50 51 args s
noncomputable def T51 : CallF := addF T50 51 s51b
set_option maxRecDepth 100000 in
set_option maxHeartbeats 4000000 in
theorem ok51 : CfOk Try.prog T51 := by
  refine cfOk_add ok50 fun args s r s' h1 h2 h3 => ?_
  unfold s51b at h3; split at h3
  · rename_i h; split at h3
    · rename_i hc; obtain ⟨rfl, rfl, rfl, rfl, rfl⟩ := hc; exact callOk ok50 Try.func51 h1 h2 h (lfOkF_no _ _).body (e51b _ _) rfl h3
    · exact ok50 _ _ _ _ _ h1 h2 h3
  · exact ok50 _ _ _ _ _ h1 h2 h3

/-- impl.areInputs -/
noncomputable def r64 (x0 x1 x2 x3 x4 x5 x6 x7 : Nat) : Bool :=
 cond (!(r63 x0 x1))
  (false)
  (cond (!(r51b x0 x1))
   (false)
   (cond (!(r63 x2 x3))
    (false)
    (cond (!(r51b x2 x3))
     (false)
     (cond (!(r63 x4 x5))
      (false)
      (cond (!(r51b x4 x5))
       (false)
       (cond (!(r63 x6 x7))
        (false)
        (cond (!(r51b x6 x7))
         (false)
         (true))))))))
noncomputable def a64 (x0 x1 x2 x3 x4 x5 x6 x7 : Nat) (p : Bool) : Res := firstT [(true, .bool p, st0)]
noncomputable def w64 (x0 x1 x2 x3 x4 x5 x6 x7 : Nat) : Res :=
 (cond (!(r63 x0 x1))
 (a64 x0 x1 x2 x3 x4 x5 x6 x7 (false))
 (cond (!(r51b x0 x1))
  (a64 x0 x1 x2 x3 x4 x5 x6 x7 (false))
  (cond (!(r63 x2 x3))
   (a64 x0 x1 x2 x3 x4 x5 x6 x7 (false))
   (cond (!(r51b x2 x3))
    (a64 x0 x1 x2 x3 x4 x5 x6 x7 (false))
    (cond (!(r63 x4 x5))
     (a64 x0 x1 x2 x3 x4 x5 x6 x7 (false))
     (cond (!(r51b x4 x5))
      (a64 x0 x1 x2 x3 x4 x5 x6 x7 (false))
      (cond (!(r63 x6 x7))
       (a64 x0 x1 x2 x3 x4 x5 x6 x7 (false))
       (cond (!(r51b x6 x7))
        (a64 x0 x1 x2 x3 x4 x5 x6 x7 (false))
        (a64 x0 x1 x2 x3 x4 x5 x6 x7 (true))))))))))
set_option maxRecDepth 100000 in
set_option maxHeartbeats 4000000 in
theorem e64 (x0 x1 x2 x3 x4 x5 x6 x7 : Nat) : evFn Try.prog ext T51 noL 200 Try.f64 [.agg #[.float .f32 x0, .float .f32 x1, .float .f32 x2, .float .f32 x3, .float .f32 x4, .float .f32 x5, .float .f32 x6, .float .f32 x7]] st0 = firstT [(true, .bool (r64 x0 x1 x2 x3 x4 x5 x6 x7), st0)] :=
 (show evFn Try.prog ext T51 noL 200 Try.f64 [.agg #[.float .f32 x0, .float .f32 x1, .float .f32 x2, .float .f32 x3, .float .f32 x4, .float .f32 x5, .float .f32 x6, .float .f32 x7]] st0 = w64 x0 x1 x2 x3 x4 x5 x6 x7 from by kernel_rfl).trans
 (show w64 x0 x1 x2 x3 x4 x5 x6 x7 = a64 x0 x1 x2 x3 x4 x5 x6 x7 (r64 x0 x1 x2 x3 x4 x5 x6 x7) from by unfold w64 r64; exact (cond_app (a64 x0 x1 x2 x3 x4 x5 x6 x7) _ rfl (cond_app (a64 x0 x1 x2 x3 x4 x5 x6 x7) _ rfl (cond_app (a64 x0 x1 x2 x3 x4 x5 x6 x7) _ rfl (cond_app (a64 x0 x1 x2 x3 x4 x5 x6 x7) _ rfl (cond_app (a64 x0 x1 x2 x3 x4 x5 x6 x7) _ rfl (cond_app (a64 x0 x1 x2 x3 x4 x5 x6 x7) _ rfl (cond_app (a64 x0 x1 x2 x3 x4 x5 x6 x7) _ rfl (cond_app (a64 x0 x1 x2 x3 x4 x5 x6 x7) _ rfl rfl)))))))))
noncomputable def s64 (args : List Value) (s : St) : List (Bool × Value × St) :=
 match args, s.h with
 | [.agg ⟨[.float .f32 x0, .float .f32 x1, .float .f32 x2, .float .f32 x3, .float .f32 x4, .float .f32 x5, .float .f32 x6, .float .f32 x7]⟩], [] => [(true, .bool (r64 x0 x1 x2 x3 x4 x5 x6 x7), st0)]
 | _, _ => T51 64 args s
noncomputable def T52 : CallF := addF T51 64 s64
set_option maxRecDepth 100000 in
set_option maxHeartbeats 4000000 in
theorem ok52 : CfOk Try.prog T52 := by
  refine cfOk_add ok51 fun args s r s' h1 h2 h3 => ?_
  unfold s64 at h3; split at h3
  · rename_i h; exact callOk ok51 Try.func64 h1 h2 h (lfOkF_no _ _).body (e64 _ _ _ _ _ _ _ _) rfl h3
  · exact ok51 _ _ _ _ _ h1 h2 h3

/-- slices.Index[[]string,string], loop 0: one round -/
noncomputable def b56l0b (ih : ByteArray → Int → Int → List ByteArray → (Nat × Int)) (x0 : ByteArray) (x1 x2 : Int) (x3 : List ByteArray) : Nat × Int :=
 cond (decide ((x2 : Int) < x1))
  (cond ((decide ((0 : Int) ≤ x2)) && (Nat.blt (Int.toNat x2) x3.length))
   (cond (x0.toList == (x3.getD (Int.toNat x2) .empty).toList)
    (0, x2)
    (ih x0 x1 (IntKind.i64.wrap (x2 + 1)) x3))
   (2, 0))
  (1, 0)
noncomputable def r56l0b : Nat → ByteArray → Int → Int → List ByteArray → (Nat × Int)
 | 0 => fun _ _ _ _ => (2, 0)
 | m + 1 => b56l0b (r56l0b m)
noncomputable def a56l0b (x0 : ByteArray) (x1 x2 : Int) (x3 : List ByteArray) (p : Nat × Int) : Option (Fin' × List Value × St) := firstT ([((Nat.beq (p.1) 0), .ret, [.int .i64 (p.2)], ⟨[⟨true, (some (.strs x3))⟩], 1, []⟩), ((Nat.beq (p.1) 1), .exit 0, [anyV], ⟨[⟨true, (some (.strs x3))⟩], 1, []⟩)].map fun (b, x) => (b, (x.1, frameOf 19 [4] x.2.1, x.2.2)))
noncomputable def u56l0b (x0 : ByteArray) (x1 x2 : Int) (x3 : List ByteArray) (p : Nat × Int) : Option (Fin' × List Value × St) := alts ([((Nat.beq (p.1) 0), .ret, [.int .i64 (p.2)], ⟨[⟨true, (some (.strs x3))⟩], 1, []⟩), ((Nat.beq (p.1) 1), .exit 0, [anyV], ⟨[⟨true, (some (.strs x3))⟩], 1, []⟩)].map fun (b, x) => (b, (x.1, frameOf 19 [4] x.2.1, x.2.2))) some
theorem v56l0b (x0 : ByteArray) (x1 x2 : Int) (x3 : List ByteArray) (p : Nat × Int) : u56l0b x0 x1 x2 x3 p = a56l0b x0 x1 x2 x3 p := alts_first _
noncomputable def q56l0b (m : Nat) : SumK := fun vals s =>
 match vals, s.h with
 | [.iface f0 .nilIface, .string x0, .int .i64 x1, .int .i64 x2], [⟨true, some (.strs x3)⟩] => if f0 = 0 then [((Nat.beq ((r56l0b m x0 x1 x2 x3).1) 0), .ret, [.int .i64 ((r56l0b m x0 x1 x2 x3).2)], ⟨[⟨true, (some (.strs x3))⟩], 1, []⟩), ((Nat.beq ((r56l0b m x0 x1 x2 x3).1) 1), .exit 0, [anyV], ⟨[⟨true, (some (.strs x3))⟩], 1, []⟩)] else Q56l0 vals s
 | _, _ => Q56l0 vals s
noncomputable def w56l0b (ih : ByteArray → Int → Int → List ByteArray → (Nat × Int)) (x0 : ByteArray) (x1 x2 : Int) (x3 : List ByteArray) : Option (Fin' × List Value × St) :=
 (cond (decide ((x2 : Int) < x1))
 (cond ((decide ((0 : Int) ≤ x2)) && (Nat.blt (Int.toNat x2) x3.length))
  (cond (Nat.blt (Int.toNat x2) x3.length)
   (cond (x0.toList == (x3.getD (Int.toNat x2) .empty).toList)
    (a56l0b x0 x1 x2 x3 (0, x2))
    (u56l0b x0 x1 x2 x3 (ih x0 x1 (IntKind.i64.wrap (x2 + 1)) x3)))
   none)
  none)
 (a56l0b x0 x1 x2 x3 (1, 0)))
set_option maxRecDepth 100000 in
set_option maxHeartbeats 4000000 in
theorem e56l0b (m : Nat) (x0 : ByteArray) (x1 x2 : Int) (x3 : List ByteArray) : evC Try.prog ext T52 L56_1 200 (loopN Try.f56 0) (loopTail ([0, 1, 7, 8], []) [4] [] (sumK 19 [0, 1, 7, 8] [4] (q56l0b m))) (frameOf 19 [0, 1, 7, 8] [wsl 0, .string x0, .int .i64 x1, .int .i64 x2]) ⟨[⟨true, (some (.strs x3))⟩], 1, []⟩ = firstT ([((Nat.beq ((r56l0b (m + 1) x0 x1 x2 x3).1) 0), .ret, [.int .i64 ((r56l0b (m + 1) x0 x1 x2 x3).2)], ⟨[⟨true, (some (.strs x3))⟩], 1, []⟩), ((Nat.beq ((r56l0b (m + 1) x0 x1 x2 x3).1) 1), .exit 0, [anyV], ⟨[⟨true, (some (.strs x3))⟩], 1, []⟩)].map fun (b, x) => (b, (x.1, frameOf 19 [4] x.2.1, x.2.2))) :=
 (show evC Try.prog ext T52 L56_1 200 (loopN Try.f56 0) (loopTail ([0, 1, 7, 8], []) [4] [] (sumK 19 [0, 1, 7, 8] [4] (q56l0b m))) (frameOf 19 [0, 1, 7, 8] [wsl 0, .string x0, .int .i64 x1, .int .i64 x2]) ⟨[⟨true, (some (.strs x3))⟩], 1, []⟩ = w56l0b (r56l0b m) x0 x1 x2 x3 from by kernel_rfl).trans
 (show w56l0b (r56l0b m) x0 x1 x2 x3 = a56l0b x0 x1 x2 x3 (r56l0b (m + 1) x0 x1 x2 x3) from by unfold w56l0b; show _ = a56l0b x0 x1 x2 x3 (b56l0b (r56l0b m) x0 x1 x2 x3); unfold b56l0b; exact (cond_both (a56l0b x0 x1 x2 x3) _ (fun h0 => (cond_both (a56l0b x0 x1 x2 x3) _ (fun h1 => (cond_t (ev_and2 h1) (cond_app (a56l0b x0 x1 x2 x3) _ rfl (v56l0b x0 x1 x2 x3 ((r56l0b m) x0 x1 (IntKind.i64.wrap (x2 + 1)) x3))))) (fun h1 => rfl))) (fun h0 => rfl)))
set_option maxRecDepth 100000 in
set_option maxHeartbeats 4000000 in
theorem qm56l0b : ∀ m, SumKOk Try.prog (loopN Try.f56 0) 19 [0, 1, 7, 8] [4] (q56l0b m) := by
  intro m
  induction m with
  | zero =>
    intro vals s x h1 h2 h3
    unfold q56l0b at h3; split at h3
    · rename_i h; split at h3
      · rename_i hc; obtain ⟨rfl⟩ := hc; exact absurd h3 (by simp [r56l0b, firstT, Nat.beq])
      · exact qok56l0 _ _ _ h1 h2 h3
    · exact qok56l0 _ _ _ h1 h2 h3
  | succ m ih =>
    intro vals s x h1 h2 h3
    unfold q56l0b at h3; split at h3
    · rename_i h; split at h3
      · rename_i hc; obtain ⟨rfl⟩ := hc; exact sum_step ok52 extOk mixed (lok56_1.inner (by kernel_rfl)) ih h1 h2 h (e56l0b m _ _ _ _) rfl h3
      · exact qok56l0 _ _ _ h1 h2 h3
    · exact qok56l0 _ _ _ h1 h2 h3
noncomputable def Q56l0b : SumK := fun vals s => q56l0b (fuelOf vals s.h) vals s
theorem qok56l0b : SumKOk Try.prog (loopN Try.f56 0) 19 [0, 1, 7, 8] [4] Q56l0b := fuel_ok qm56l0b fuelOf
noncomputable def L56_2 : LoopT := addL L56_1 3 ([0, 1, 7, 8], []) (sumK 19 [0, 1, 7, 8] [4] Q56l0b)
theorem lok56_2 : LfOkF Try.prog L56_2 Try.f56 := lfOkF_add lok56_1 qok56l0b (by kernel_rfl) (by kernel_rfl) (by kernel_rfl)

/-- slices.Index[[]string,string] -/
noncomputable def r56b (x0 : ByteArray) (x1 : List ByteArray) : Nat × Int :=
 cond (Nat.beq ((r56l0b (1000 + x1.length + (x0.size)) x0 ((x1.length : Nat) : Int) 0 x1).1) 0)
  (0, ((r56l0b (1000 + x1.length + (x0.size)) x0 ((x1.length : Nat) : Int) 0 x1).2))
  (cond (Nat.beq ((r56l0b (1000 + x1.length + (x0.size)) x0 ((x1.length : Nat) : Int) 0 x1).1) 1)
   (0, (-1))
   (1, 0))
noncomputable def a56b (x0 : ByteArray) (x1 : List ByteArray) (p : Nat × Int) : Res := firstT [((Nat.beq (p.1) 0), .int .i64 (p.2), ⟨[⟨true, (some (.strs x1))⟩], 1, []⟩)]
noncomputable def w56b (x0 : ByteArray) (x1 : List ByteArray) : Res :=
 (cond (Nat.beq ((r56l0b (1000 + x1.length + (x0.size)) x0 ((x1.length : Nat) : Int) 0 x1).1) 0)
 (a56b x0 x1 (0, ((r56l0b (1000 + x1.length + (x0.size)) x0 ((x1.length : Nat) : Int) 0 x1).2)))
 (cond (Nat.beq ((r56l0b (1000 + x1.length + (x0.size)) x0 ((x1.length : Nat) : Int) 0 x1).1) 1)
  (a56b x0 x1 (0, (-1)))
  none))
set_option maxRecDepth 100000 in
set_option maxHeartbeats 4000000 in
theorem e56b (x0 : ByteArray) (x1 : List ByteArray) : evFn Try.prog ext T52 L56_2 200 Try.f56 [wsl 0, .string x0] ⟨[⟨true, (some (.strs x1))⟩], 1, []⟩ = firstT [((Nat.beq ((r56b x0 x1).1) 0), .int .i64 ((r56b x0 x1).2), ⟨[⟨true, (some (.strs x1))⟩], 1, []⟩)] :=
 (show evFn Try.prog ext T52 L56_2 200 Try.f56 [wsl 0, .string x0] ⟨[⟨true, (some (.strs x1))⟩], 1, []⟩ = w56b x0 x1 from by kernel_rfl).trans
 (show w56b x0 x1 = a56b x0 x1 (r56b x0 x1) from by unfold w56b r56b; exact (cond_app (a56b x0 x1) _ rfl (cond_app (a56b x0 x1) _ rfl rfl)))
noncomputable def s56b (args : List Value) (s : St) : List (Bool × Value × St) :=
 match args, s.h with
 | [.iface f0 .nilIface, .string x0], [⟨true, some (.strs x1)⟩] => if f0 = 0 then [((Nat.beq ((r56b x0 x1).1) 0), .int .i64 ((r56b x0 x1).2), ⟨[⟨true, (some (.strs x1))⟩], 1, []⟩)] else T52 56 args s
 | _, _ => T52 56 args s
noncomputable def T53 : CallF := addF T52 56 s56b
set_option maxRecDepth 100000 in
set_option maxHeartbeats 4000000 in
theorem ok53 : CfOk Try.prog T53 := by
  refine cfOk_add ok52 fun args s r s' h1 h2 h3 => ?_
  unfold s56b at h3; split at h3
  · rename_i h; split at h3
    · rename_i hc; obtain ⟨rfl⟩ := hc; exact callOk ok52 Try.func56 h1 h2 h lok56_2.body (e56b _ _) rfl h3
    · exact ok52 _ _ _ _ _ h1 h2 h3
  · exact ok52 _ _ _ _ _ h1 h2 h3

/-- impl.prove$1 -/
noncomputable def r89 (x0 : Nat) : Unit :=
 ()
noncomputable def a89 (x0 : Nat) (p : Unit) : Res := firstT [(true, .agg #[.float .f32 x0, .float .f32 x0], st0)]
noncomputable def w89 (x0 : Nat) : Res :=
 (a89 x0 ())
set_option maxRecDepth 100000 in
set_option maxHeartbeats 4000000 in
theorem e89 (x0 : Nat) : evFn Try.prog ext T53 noL 200 Try.f89 [.float .f32 x0] st0 = firstT [(true, .agg #[.float .f32 x0, .float .f32 x0], st0)] :=
 (show evFn Try.prog ext T53 noL 200 Try.f89 [.float .f32 x0] st0 = w89 x0 from by kernel_rfl).trans
 (show w89 x0 = a89 x0 (r89 x0) from by unfold w89 r89; exact rfl)
noncomputable def s89 (args : List Value) (s : St) : List (Bool × Value × St) :=
 match args, s.h with
 | [.float .f32 x0], [] => [(true, .agg #[.float .f32 x0, .float .f32 x0], st0)]
 | _, _ => T53 89 args s
noncomputable def T54 : CallF := addF T53 89 s89
set_option maxRecDepth 100000 in
set_option maxHeartbeats 4000000 in
theorem ok54 : CfOk Try.prog T54 := by
  refine cfOk_add ok53 fun args s r s' h1 h2 h3 => ?_
  unfold s89 at h3; split at h3
  · rename_i h; exact callOk ok53 Try.func89 h1 h2 h (lfOkF_no _ _).body (e89 _) rfl h3
  · exact ok53 _ _ _ _ _ h1 h2 h3

/-- impl.infinity -/
noncomputable def r116 (x0 : Int) : Nat × Nat :=
 cond (narrowOk (r111 x0))
  (0, (narrow (r111 x0)))
  (1, 0)
noncomputable def a116 (x0 : Int) (p : Nat × Nat) : Res := firstT [((Nat.beq (p.1) 0), .float .f32 (p.2), st0)]
noncomputable def w116 (x0 : Int) : Res :=
 (cond (narrowOk (r111 x0))
 (a116 x0 (0, (narrow (r111 x0))))
 none)
set_option maxRecDepth 100000 in
set_option maxHeartbeats 4000000 in
theorem e116 (x0 : Int) : evFn Try.prog ext T54 noL 200 Try.f116 [.int .i64 x0] st0 = firstT [((Nat.beq ((r116 x0).1) 0), .float .f32 ((r116 x0).2), st0)] :=
 (show evFn Try.prog ext T54 noL 200 Try.f116 [.int .i64 x0] st0 = w116 x0 from by kernel_rfl).trans
 (show w116 x0 = a116 x0 (r116 x0) from by unfold w116 r116; exact (cond_app (a116 x0) _ rfl rfl))
noncomputable def s116 (args : List Value) (s : St) : List (Bool × Value × St) :=
 match args, s.h with
 | [.int .i64 x0], [] => [((Nat.beq ((r116 x0).1) 0), .float .f32 ((r116 x0).2), st0)]
 | _, _ => T54 116 args s
noncomputable def T55 : CallF := addF T54 116 s116
set_option maxRecDepth 100000 in
set_option maxHeartbeats 4000000 in
theorem ok55 : CfOk Try.prog T55 := by
  refine cfOk_add ok54 fun args s r s' h1 h2 h3 => ?_
  unfold s116 at h3; split at h3
  · rename_i h; exact callOk ok54 Try.func116 h1 h2 h (lfOkF_no _ _).body (e116 _) rfl h3
  · exact ok54 _ _ _ _ _ h1 h2 h3

/-- impl.NextUp -/
noncomputable def r118 (x0 : Nat) : Nat :=
 cond (!isN .f32 x0)
  (cond (!feq .f32 x0 x0)
   (x0)
   (cond (r80 (widen x0) 1)
    (x0)
    (cond ((((x0 : Nat) : Int) : Int) == 2147483648)
     (1)
     (cond (((Int.fdiv ((x0 : Nat) : Int) (2 ^ (min (31 : Int).toNat (IntKind.bits .u32)))) : Int) != 0)
      ((Int.toNat (IntKind.u32.wrap (((x0 : Nat) : Int) - 1))))
      ((Int.toNat (IntKind.u32.wrap (((x0 : Nat) : Int) + 1))))))))
  (x0)
noncomputable def a118 (x0 : Nat) (p : Nat) : Res := firstT [(true, .float .f32 p, st0)]
noncomputable def w118 (x0 : Nat) : Res :=
 (cond (!isN .f32 x0)
 (cond (!feq .f32 x0 x0)
  (a118 x0 (x0))
  (cond (r80 (widen x0) 1)
   (a118 x0 (x0))
   (cond ((((x0 : Nat) : Int) : Int) == 2147483648)
    (a118 x0 (1))
    (cond (((Int.fdiv ((x0 : Nat) : Int) (2 ^ (min (31 : Int).toNat (IntKind.bits .u32)))) : Int) != 0)
     (a118 x0 ((Int.toNat (IntKind.u32.wrap (((x0 : Nat) : Int) - 1)))))
     (a118 x0 ((Int.toNat (IntKind.u32.wrap (((x0 : Nat) : Int) + 1)))))))))
 (cond (!feq .f32 x0 x0)
  (a118 x0 (x0))
  (cond (r80 (widen x0) 1)
   (some (.float .f32 x0, st0))
   none)))
set_option maxRecDepth 100000 in
set_option maxHeartbeats 4000000 in
theorem e118 (x0 : Nat) : evFn Try.prog ext T55 noL 200 Try.f118 [.float .f32 x0] st0 = firstT [(true, .float .f32 (r118 x0), st0)] :=
 (show evFn Try.prog ext T55 noL 200 Try.f118 [.float .f32 x0] st0 = w118 x0 from by kernel_rfl).trans
 (show w118 x0 = a118 x0 (r118 x0) from by unfold w118 r118; exact (cond_both (a118 x0) _ (fun h0 => (cond_app (a118 x0) _ rfl (cond_app (a118 x0) _ rfl (cond_app (a118 x0) _ rfl (cond_app (a118 x0) _ rfl rfl))))) (fun h0 => (cond_t (ev_not1 (feq_nanl _ (ev_notf h0))) rfl))))
noncomputable def s118 (args : List Value) (s : St) : List (Bool × Value × St) :=
 match args, s.h with
 | [.float .f32 x0], [] => [(true, .float .f32 (r118 x0), st0)]
 | _, _ => T55 118 args s
noncomputable def T56 : CallF := addF T55 118 s118
set_option maxRecDepth 100000 in
set_option maxHeartbeats 4000000 in
theorem ok56 : CfOk Try.prog T56 := by
  refine cfOk_add ok55 fun args s r s' h1 h2 h3 => ?_
  unfold s118 at h3; split at h3
  · rename_i h; exact callOk ok55 Try.func118 h1 h2 h (lfOkF_no _ _).body (e118 _) rfl h3
  · exact ok55 _ _ _ _ _ h1 h2 h3

/-- impl.NextDown -/
noncomputable def r117 (x0 : Nat) : Nat :=
 ((fneg .f32 (r118 (fneg .f32 x0))))
noncomputable def a117 (x0 : Nat) (p : Nat) : Res := firstT [(true, .float .f32 p, st0)]
noncomputable def w117 (x0 : Nat) : Res :=
 (a117 x0 ((fneg .f32 (r118 (fneg .f32 x0)))))
set_option maxRecDepth 100000 in
set_option maxHeartbeats 4000000 in
theorem e117 (x0 : Nat) : evFn Try.prog ext T56 noL 200 Try.f117 [.float .f32 x0] st0 = firstT [(true, .float .f32 (r117 x0), st0)] :=
 (show evFn Try.prog ext T56 noL 200 Try.f117 [.float .f32 x0] st0 = w117 x0 from by kernel_rfl).trans
 (show w117 x0 = a117 x0 (r117 x0) from by unfold w117 r117; exact rfl)
noncomputable def s117 (args : List Value) (s : St) : List (Bool × Value × St) :=
 match args, s.h with
 | [.float .f32 x0], [] => [(true, .float .f32 (r117 x0), st0)]
 | _, _ => T56 117 args s
noncomputable def T57 : CallF := addF T56 117 s117
set_option maxRecDepth 100000 in
set_option maxHeartbeats 4000000 in
theorem ok57 : CfOk Try.prog T57 := by
  refine cfOk_add ok56 fun args s r s' h1 h2 h3 => ?_
  unfold s117 at h3; split at h3
  · rename_i h; exact callOk ok56 Try.func117 h1 h2 h (lfOkF_no _ _).body (e117 _) rfl h3
  · exact ok56 _ _ _ _ _ h1 h2 h3

/-- impl.lowEnd -/
noncomputable def r114 (x0 : Nat) : Nat × Nat :=
 cond (!feq .f32 x0 x0)
  (cond (Nat.beq ((r116 (-1)).1) 0)
   (0, ((r116 (-1)).2))
   (1, 0))
  (0, (r117 x0))
noncomputable def a114 (x0 : Nat) (p : Nat × Nat) : Res := firstT [((Nat.beq (p.1) 0), .float .f32 (p.2), st0)]
noncomputable def w114 (x0 : Nat) : Res :=
 (cond (!feq .f32 x0 x0)
 (cond (Nat.beq ((r116 (-1)).1) 0)
  (a114 x0 (0, ((r116 (-1)).2)))
  none)
 (a114 x0 (0, (r117 x0))))
set_option maxRecDepth 100000 in
set_option maxHeartbeats 4000000 in
theorem e114 (x0 : Nat) : evFn Try.prog ext T57 noL 200 Try.f114 [.float .f32 x0] st0 = firstT [((Nat.beq ((r114 x0).1) 0), .float .f32 ((r114 x0).2), st0)] :=
 (show evFn Try.prog ext T57 noL 200 Try.f114 [.float .f32 x0] st0 = w114 x0 from by kernel_rfl).trans
 (show w114 x0 = a114 x0 (r114 x0) from by unfold w114 r114; exact (cond_app (a114 x0) _ (cond_app (a114 x0) _ rfl rfl) rfl))
noncomputable def s114 (args : List Value) (s : St) : List (Bool × Value × St) :=
 match args, s.h with
 | [.float .f32 x0], [] => [((Nat.beq ((r114 x0).1) 0), .float .f32 ((r114 x0).2), st0)]
 | _, _ => T57 114 args s
noncomputable def T58 : CallF := addF T57 114 s114
set_option maxRecDepth 100000 in
set_option maxHeartbeats 4000000 in
theorem ok58 : CfOk Try.prog T58 := by
  refine cfOk_add ok57 fun args s r s' h1 h2 h3 => ?_
  unfold s114 at h3; split at h3
  · rename_i h; exact callOk ok57 Try.func114 h1 h2 h (lfOkF_no _ _).body (e114 _) rfl h3
  · exact ok57 _ _ _ _ _ h1 h2 h3

/-- impl.highEnd -/
noncomputable def r115 (x0 : Nat) : Nat × Nat :=
 cond (!feq .f32 x0 x0)
  (cond (Nat.beq ((r116 1).1) 0)
   (0, ((r116 1).2))
   (1, 0))
  (0, (r118 x0))
noncomputable def a115 (x0 : Nat) (p : Nat × Nat) : Res := firstT [((Nat.beq (p.1) 0), .float .f32 (p.2), st0)]
noncomputable def w115 (x0 : Nat) : Res :=
 (cond (!feq .f32 x0 x0)
 (cond (Nat.beq ((r116 1).1) 0)
  (a115 x0 (0, ((r116 1).2)))
  none)
 (a115 x0 (0, (r118 x0))))
set_option maxRecDepth 100000 in
set_option maxHeartbeats 4000000 in
theorem e115 (x0 : Nat) : evFn Try.prog ext T58 noL 200 Try.f115 [.float .f32 x0] st0 = firstT [((Nat.beq ((r115 x0).1) 0), .float .f32 ((r115 x0).2), st0)] :=
 (show evFn Try.prog ext T58 noL 200 Try.f115 [.float .f32 x0] st0 = w115 x0 from by kernel_rfl).trans
 (show w115 x0 = a115 x0 (r115 x0) from by unfold w115 r115; exact (cond_app (a115 x0) _ (cond_app (a115 x0) _ rfl rfl) rfl))
noncomputable def s115 (args : List Value) (s : St) : List (Bool × Value × St) :=
 match args, s.h with
 | [.float .f32 x0], [] => [((Nat.beq ((r115 x0).1) 0), .float .f32 ((r115 x0).2), st0)]
 | _, _ => T58 115 args s
noncomputable def T59 : CallF := addF T58 115 s115
set_option maxRecDepth 100000 in
set_option maxHeartbeats 4000000 in
theorem ok59 : CfOk Try.prog T59 := by
  refine cfOk_add ok58 fun args s r s' h1 h2 h3 => ?_
  unfold s115 at h3; split at h3
  · rename_i h; exact callOk ok58 Try.func115 h1 h2 h (lfOkF_no _ _).body (e115 _) rfl h3
  · exact ok58 _ _ _ _ _ h1 h2 h3

/-- impl.addSpans -/
noncomputable def r102 (x0 x1 x2 x3 : Nat) : Nat × Nat × Nat :=
 cond (Nat.beq ((r114 (fadd .f32 x0 x2)).1) 0)
  (cond (Nat.beq ((r115 (fadd .f32 x1 x3)).1) 0)
   (0, ((r114 (fadd .f32 x0 x2)).2), ((r115 (fadd .f32 x1 x3)).2))
   (1, 0, 0))
  (1, 0, 0)
noncomputable def a102 (x0 x1 x2 x3 : Nat) (p : Nat × Nat × Nat) : Res := firstT [((Nat.beq (p.1) 0), .agg #[.float .f32 (p.2.1), .float .f32 (p.2.2)], st0)]
noncomputable def w102 (x0 x1 x2 x3 : Nat) : Res :=
 (cond (Nat.beq ((r114 (fadd .f32 x0 x2)).1) 0)
 (cond (Nat.beq ((r115 (fadd .f32 x1 x3)).1) 0)
  (a102 x0 x1 x2 x3 (0, ((r114 (fadd .f32 x0 x2)).2), ((r115 (fadd .f32 x1 x3)).2)))
  none)
 none)
set_option maxRecDepth 100000 in
set_option maxHeartbeats 4000000 in
theorem e102 (x0 x1 x2 x3 : Nat) : evFn Try.prog ext T59 noL 200 Try.f102 [.agg #[.float .f32 x0, .float .f32 x1], .agg #[.float .f32 x2, .float .f32 x3]] st0 = firstT [((Nat.beq ((r102 x0 x1 x2 x3).1) 0), .agg #[.float .f32 ((r102 x0 x1 x2 x3).2.1), .float .f32 ((r102 x0 x1 x2 x3).2.2)], st0)] :=
 (show evFn Try.prog ext T59 noL 200 Try.f102 [.agg #[.float .f32 x0, .float .f32 x1], .agg #[.float .f32 x2, .float .f32 x3]] st0 = w102 x0 x1 x2 x3 from by kernel_rfl).trans
 (show w102 x0 x1 x2 x3 = a102 x0 x1 x2 x3 (r102 x0 x1 x2 x3) from by unfold w102 r102; exact (cond_app (a102 x0 x1 x2 x3) _ (cond_app (a102 x0 x1 x2 x3) _ rfl rfl) rfl))
noncomputable def s102 (args : List Value) (s : St) : List (Bool × Value × St) :=
 match args, s.h with
 | [.agg ⟨[.float .f32 x0, .float .f32 x1]⟩, .agg ⟨[.float .f32 x2, .float .f32 x3]⟩], [] => [((Nat.beq ((r102 x0 x1 x2 x3).1) 0), .agg #[.float .f32 ((r102 x0 x1 x2 x3).2.1), .float .f32 ((r102 x0 x1 x2 x3).2.2)], st0)]
 | _, _ => T59 102 args s
noncomputable def T60 : CallF := addF T59 102 s102
set_option maxRecDepth 100000 in
set_option maxHeartbeats 4000000 in
theorem ok60 : CfOk Try.prog T60 := by
  refine cfOk_add ok59 fun args s r s' h1 h2 h3 => ?_
  unfold s102 at h3; split at h3
  · rename_i h; exact callOk ok59 Try.func102 h1 h2 h (lfOkF_no _ _).body (e102 _ _ _ _) rfl h3
  · exact ok59 _ _ _ _ _ h1 h2 h3

/-- impl.subSpans -/
noncomputable def r103 (x0 x1 x2 x3 : Nat) : Nat × Nat × Nat :=
 cond (Nat.beq ((r114 (fsub .f32 x0 x3)).1) 0)
  (cond (Nat.beq ((r115 (fsub .f32 x1 x2)).1) 0)
   (0, ((r114 (fsub .f32 x0 x3)).2), ((r115 (fsub .f32 x1 x2)).2))
   (1, 0, 0))
  (1, 0, 0)
noncomputable def a103 (x0 x1 x2 x3 : Nat) (p : Nat × Nat × Nat) : Res := firstT [((Nat.beq (p.1) 0), .agg #[.float .f32 (p.2.1), .float .f32 (p.2.2)], st0)]
noncomputable def w103 (x0 x1 x2 x3 : Nat) : Res :=
 (cond (Nat.beq ((r114 (fsub .f32 x0 x3)).1) 0)
 (cond (Nat.beq ((r115 (fsub .f32 x1 x2)).1) 0)
  (a103 x0 x1 x2 x3 (0, ((r114 (fsub .f32 x0 x3)).2), ((r115 (fsub .f32 x1 x2)).2)))
  none)
 none)
set_option maxRecDepth 100000 in
set_option maxHeartbeats 4000000 in
theorem e103 (x0 x1 x2 x3 : Nat) : evFn Try.prog ext T60 noL 200 Try.f103 [.agg #[.float .f32 x0, .float .f32 x1], .agg #[.float .f32 x2, .float .f32 x3]] st0 = firstT [((Nat.beq ((r103 x0 x1 x2 x3).1) 0), .agg #[.float .f32 ((r103 x0 x1 x2 x3).2.1), .float .f32 ((r103 x0 x1 x2 x3).2.2)], st0)] :=
 (show evFn Try.prog ext T60 noL 200 Try.f103 [.agg #[.float .f32 x0, .float .f32 x1], .agg #[.float .f32 x2, .float .f32 x3]] st0 = w103 x0 x1 x2 x3 from by kernel_rfl).trans
 (show w103 x0 x1 x2 x3 = a103 x0 x1 x2 x3 (r103 x0 x1 x2 x3) from by unfold w103 r103; exact (cond_app (a103 x0 x1 x2 x3) _ (cond_app (a103 x0 x1 x2 x3) _ rfl rfl) rfl))
noncomputable def s103 (args : List Value) (s : St) : List (Bool × Value × St) :=
 match args, s.h with
 | [.agg ⟨[.float .f32 x0, .float .f32 x1]⟩, .agg ⟨[.float .f32 x2, .float .f32 x3]⟩], [] => [((Nat.beq ((r103 x0 x1 x2 x3).1) 0), .agg #[.float .f32 ((r103 x0 x1 x2 x3).2.1), .float .f32 ((r103 x0 x1 x2 x3).2.2)], st0)]
 | _, _ => T60 103 args s
noncomputable def T61 : CallF := addF T60 103 s103
set_option maxRecDepth 100000 in
set_option maxHeartbeats 4000000 in
theorem ok61 : CfOk Try.prog T61 := by
  refine cfOk_add ok60 fun args s r s' h1 h2 h3 => ?_
  unfold s103 at h3; split at h3
  · rename_i h; exact callOk ok60 Try.func103 h1 h2 h (lfOkF_no _ _).body (e103 _ _ _ _) rfl h3
  · exact ok60 _ _ _ _ _ h1 h2 h3

/-- impl.lesser -/
noncomputable def r95 (x0 x1 : Nat) : Nat :=
 cond (flt .f32 x1 x0)
  (x1)
  (x0)
noncomputable def a95 (x0 x1 : Nat) (p : Nat) : Res := firstT [(true, .float .f32 p, st0)]
noncomputable def w95 (x0 x1 : Nat) : Res :=
 (cond (flt .f32 x1 x0)
 (a95 x0 x1 (x1))
 (a95 x0 x1 (x0)))
set_option maxRecDepth 100000 in
set_option maxHeartbeats 4000000 in
theorem e95 (x0 x1 : Nat) : evFn Try.prog ext T61 noL 200 Try.f95 [.float .f32 x0, .float .f32 x1] st0 = firstT [(true, .float .f32 (r95 x0 x1), st0)] :=
 (show evFn Try.prog ext T61 noL 200 Try.f95 [.float .f32 x0, .float .f32 x1] st0 = w95 x0 x1 from by kernel_rfl).trans
 (show w95 x0 x1 = a95 x0 x1 (r95 x0 x1) from by unfold w95 r95; exact (cond_app (a95 x0 x1) _ rfl rfl))
noncomputable def s95 (args : List Value) (s : St) : List (Bool × Value × St) :=
 match args, s.h with
 | [.float .f32 x0, .float .f32 x1], [] => [(true, .float .f32 (r95 x0 x1), st0)]
 | _, _ => T61 95 args s
noncomputable def T62 : CallF := addF T61 95 s95
set_option maxRecDepth 100000 in
set_option maxHeartbeats 4000000 in
theorem ok62 : CfOk Try.prog T62 := by
  refine cfOk_add ok61 fun args s r s' h1 h2 h3 => ?_
  unfold s95 at h3; split at h3
  · rename_i h; exact callOk ok61 Try.func95 h1 h2 h (lfOkF_no _ _).body (e95 _ _) rfl h3
  · exact ok61 _ _ _ _ _ h1 h2 h3

/-- impl.greater -/
noncomputable def r96 (x0 x1 : Nat) : Nat :=
 cond (fgt .f32 x1 x0)
  (x1)
  (x0)
noncomputable def a96 (x0 x1 : Nat) (p : Nat) : Res := firstT [(true, .float .f32 p, st0)]
noncomputable def w96 (x0 x1 : Nat) : Res :=
 (cond (fgt .f32 x1 x0)
 (a96 x0 x1 (x1))
 (a96 x0 x1 (x0)))
set_option maxRecDepth 100000 in
set_option maxHeartbeats 4000000 in
theorem e96 (x0 x1 : Nat) : evFn Try.prog ext T62 noL 200 Try.f96 [.float .f32 x0, .float .f32 x1] st0 = firstT [(true, .float .f32 (r96 x0 x1), st0)] :=
 (show evFn Try.prog ext T62 noL 200 Try.f96 [.float .f32 x0, .float .f32 x1] st0 = w96 x0 x1 from by kernel_rfl).trans
 (show w96 x0 x1 = a96 x0 x1 (r96 x0 x1) from by unfold w96 r96; exact (cond_app (a96 x0 x1) _ rfl rfl))
noncomputable def s96 (args : List Value) (s : St) : List (Bool × Value × St) :=
 match args, s.h with
 | [.float .f32 x0, .float .f32 x1], [] => [(true, .float .f32 (r96 x0 x1), st0)]
 | _, _ => T62 96 args s
noncomputable def T63 : CallF := addF T62 96 s96
set_option maxRecDepth 100000 in
set_option maxHeartbeats 4000000 in
theorem ok63 : CfOk Try.prog T63 := by
  refine cfOk_add ok62 fun args s r s' h1 h2 h3 => ?_
  unfold s96 at h3; split at h3
  · rename_i h; exact callOk ok62 Try.func96 h1 h2 h (lfOkF_no _ _).body (e96 _ _) rfl h3
  · exact ok62 _ _ _ _ _ h1 h2 h3

/-- impl.mulSpans -/
noncomputable def r104 (x0 x1 x2 x3 : Nat) : Nat × Nat × Nat :=
 cond (!feq .f32 (fmul .f32 x0 x2) (fmul .f32 x0 x2))
  (cond (Nat.beq ((r116 (-1)).1) 0)
   (cond (Nat.beq ((r116 1).1) 0)
    (0, ((r116 (-1)).2), ((r116 1).2))
    (1, 0, 0))
   (1, 0, 0))
  (cond (!feq .f32 (fmul .f32 x0 x3) (fmul .f32 x0 x3))
   (cond (Nat.beq ((r116 (-1)).1) 0)
    (cond (Nat.beq ((r116 1).1) 0)
     (0, ((r116 (-1)).2), ((r116 1).2))
     (1, 0, 0))
    (1, 0, 0))
   (cond (!feq .f32 (fmul .f32 x1 x2) (fmul .f32 x1 x2))
    (cond (Nat.beq ((r116 (-1)).1) 0)
     (cond (Nat.beq ((r116 1).1) 0)
      (0, ((r116 (-1)).2), ((r116 1).2))
      (1, 0, 0))
     (1, 0, 0))
    (cond (!feq .f32 (fmul .f32 x1 x3) (fmul .f32 x1 x3))
     (cond (Nat.beq ((r116 (-1)).1) 0)
      (cond (Nat.beq ((r116 1).1) 0)
       (0, ((r116 (-1)).2), ((r116 1).2))
       (1, 0, 0))
      (1, 0, 0))
     (0, (r117 (r95 (r95 (r95 (r95 (fmul .f32 x0 x2) (fmul .f32 x0 x2)) (fmul .f32 x0 x3)) (fmul .f32 x1 x2)) (fmul .f32 x1 x3))), (r118 (r96 (r96 (r96 (r96 (fmul .f32 x0 x2) (fmul .f32 x0 x2)) (fmul .f32 x0 x3)) (fmul .f32 x1 x2)) (fmul .f32 x1 x3)))))))
noncomputable def a104 (x0 x1 x2 x3 : Nat) (p : Nat × Nat × Nat) : Res := firstT [((Nat.beq (p.1) 0), .agg #[.float .f32 (p.2.1), .float .f32 (p.2.2)], st0)]
noncomputable def w104 (x0 x1 x2 x3 : Nat) : Res :=
 (cond (!feq .f32 (fmul .f32 x0 x2) (fmul .f32 x0 x2))
 (cond (Nat.beq ((r116 (-1)).1) 0)
  (cond (Nat.beq ((r116 1).1) 0)
   (a104 x0 x1 x2 x3 (0, ((r116 (-1)).2), ((r116 1).2)))
   none)
  none)
 (cond (!feq .f32 (fmul .f32 x0 x3) (fmul .f32 x0 x3))
  (cond (Nat.beq ((r116 (-1)).1) 0)
   (cond (Nat.beq ((r116 1).1) 0)
    (a104 x0 x1 x2 x3 (0, ((r116 (-1)).2), ((r116 1).2)))
    none)
   none)
  (cond (!feq .f32 (fmul .f32 x1 x2) (fmul .f32 x1 x2))
   (cond (Nat.beq ((r116 (-1)).1) 0)
    (cond (Nat.beq ((r116 1).1) 0)
     (a104 x0 x1 x2 x3 (0, ((r116 (-1)).2), ((r116 1).2)))
     none)
    none)
   (cond (!feq .f32 (fmul .f32 x1 x3) (fmul .f32 x1 x3))
    (cond (Nat.beq ((r116 (-1)).1) 0)
     (cond (Nat.beq ((r116 1).1) 0)
      (a104 x0 x1 x2 x3 (0, ((r116 (-1)).2), ((r116 1).2)))
      none)
     none)
    (a104 x0 x1 x2 x3 (0, (r117 (r95 (r95 (r95 (r95 (fmul .f32 x0 x2) (fmul .f32 x0 x2)) (fmul .f32 x0 x3)) (fmul .f32 x1 x2)) (fmul .f32 x1 x3))), (r118 (r96 (r96 (r96 (r96 (fmul .f32 x0 x2) (fmul .f32 x0 x2)) (fmul .f32 x0 x3)) (fmul .f32 x1 x2)) (fmul .f32 x1 x3)))))))))
set_option maxRecDepth 100000 in
set_option maxHeartbeats 4000000 in
theorem e104 (x0 x1 x2 x3 : Nat) : evFn Try.prog ext T63 noL 200 Try.f104 [.agg #[.float .f32 x0, .float .f32 x1], .agg #[.float .f32 x2, .float .f32 x3]] st0 = firstT [((Nat.beq ((r104 x0 x1 x2 x3).1) 0), .agg #[.float .f32 ((r104 x0 x1 x2 x3).2.1), .float .f32 ((r104 x0 x1 x2 x3).2.2)], st0)] :=
 (show evFn Try.prog ext T63 noL 200 Try.f104 [.agg #[.float .f32 x0, .float .f32 x1], .agg #[.float .f32 x2, .float .f32 x3]] st0 = w104 x0 x1 x2 x3 from by kernel_rfl).trans
 (show w104 x0 x1 x2 x3 = a104 x0 x1 x2 x3 (r104 x0 x1 x2 x3) from by unfold w104 r104; exact (cond_app (a104 x0 x1 x2 x3) _ (cond_app (a104 x0 x1 x2 x3) _ (cond_app (a104 x0 x1 x2 x3) _ rfl rfl) rfl) (cond_app (a104 x0 x1 x2 x3) _ (cond_app (a104 x0 x1 x2 x3) _ (cond_app (a104 x0 x1 x2 x3) _ rfl rfl) rfl) (cond_app (a104 x0 x1 x2 x3) _ (cond_app (a104 x0 x1 x2 x3) _ (cond_app (a104 x0 x1 x2 x3) _ rfl rfl) rfl) (cond_app (a104 x0 x1 x2 x3) _ (cond_app (a104 x0 x1 x2 x3) _ (cond_app (a104 x0 x1 x2 x3) _ rfl rfl) rfl) rfl)))))
noncomputable def s104 (args : List Value) (s : St) : List (Bool × Value × St) :=
 match args, s.h with
 | [.agg ⟨[.float .f32 x0, .float .f32 x1]⟩, .agg ⟨[.float .f32 x2, .float .f32 x3]⟩], [] => [((Nat.beq ((r104 x0 x1 x2 x3).1) 0), .agg #[.float .f32 ((r104 x0 x1 x2 x3).2.1), .float .f32 ((r104 x0 x1 x2 x3).2.2)], st0)]
 | _, _ => T63 104 args s
noncomputable def T64 : CallF := addF T63 104 s104
set_option maxRecDepth 100000 in
set_option maxHeartbeats 4000000 in
theorem ok64 : CfOk Try.prog T64 := by
  refine cfOk_add ok63 fun args s r s' h1 h2 h3 => ?_
  unfold s104 at h3; split at h3
  · rename_i h; exact callOk ok63 Try.func104 h1 h2 h (lfOkF_no _ _).body (e104 _ _ _ _) rfl h3
  · exact ok63 _ _ _ _ _ h1 h2 h3

/-- impl.lessSpans -/
noncomputable def r105 (x0 x1 x2 x3 : Nat) : Nat × Nat :=
 cond (flt .f32 x1 x2)
  (1065353216, 1065353216)
  (cond (fgt .f32 x0 x3 || feq .f32 x0 x3)
   (0, 0)
   (0, 1065353216))
noncomputable def a105 (x0 x1 x2 x3 : Nat) (p : Nat × Nat) : Res := firstT [(true, .agg #[.float .f32 (p.1), .float .f32 (p.2)], st0)]
noncomputable def w105 (x0 x1 x2 x3 : Nat) : Res :=
 (cond (flt .f32 x1 x2)
 (a105 x0 x1 x2 x3 (1065353216, 1065353216))
 (cond (fgt .f32 x0 x3 || feq .f32 x0 x3)
  (a105 x0 x1 x2 x3 (0, 0))
  (a105 x0 x1 x2 x3 (0, 1065353216))))
set_option maxRecDepth 100000 in
set_option maxHeartbeats 4000000 in
theorem e105 (x0 x1 x2 x3 : Nat) : evFn Try.prog ext T64 noL 200 Try.f105 [.agg #[.float .f32 x0, .float .f32 x1], .agg #[.float .f32 x2, .float .f32 x3]] st0 = firstT [(true, .agg #[.float .f32 ((r105 x0 x1 x2 x3).1), .float .f32 ((r105 x0 x1 x2 x3).2)], st0)] :=
 (show evFn Try.prog ext T64 noL 200 Try.f105 [.agg #[.float .f32 x0, .float .f32 x1], .agg #[.float .f32 x2, .float .f32 x3]] st0 = w105 x0 x1 x2 x3 from by kernel_rfl).trans
 (show w105 x0 x1 x2 x3 = a105 x0 x1 x2 x3 (r105 x0 x1 x2 x3) from by unfold w105 r105; exact (cond_app (a105 x0 x1 x2 x3) _ rfl (cond_app (a105 x0 x1 x2 x3) _ rfl rfl)))
noncomputable def s105 (args : List Value) (s : St) : List (Bool × Value × St) :=
 match args, s.h with
 | [.agg ⟨[.float .f32 x0, .float .f32 x1]⟩, .agg ⟨[.float .f32 x2, .float .f32 x3]⟩], [] => [(true, .agg #[.float .f32 ((r105 x0 x1 x2 x3).1), .float .f32 ((r105 x0 x1 x2 x3).2)], st0)]
 | _, _ => T64 105 args s
noncomputable def T65 : CallF := addF T64 105 s105
set_option maxRecDepth 100000 in
set_option maxHeartbeats 4000000 in
theorem ok65 : CfOk Try.prog T65 := by
  refine cfOk_add ok64 fun args s r s' h1 h2 h3 => ?_
  unfold s105 at h3; split at h3
  · rename_i h; exact callOk ok64 Try.func105 h1 h2 h (lfOkF_no _ _).body (e105 _ _ _ _) rfl h3
  · exact ok64 _ _ _ _ _ h1 h2 h3

/-- impl.joinSpans -/
noncomputable def r106 (x0 x1 x2 x3 : Nat) : Nat × Nat :=
 ((r95 x0 x2), (r96 x1 x3))
noncomputable def a106 (x0 x1 x2 x3 : Nat) (p : Nat × Nat) : Res := firstT [(true, .agg #[.float .f32 (p.1), .float .f32 (p.2)], st0)]
noncomputable def w106 (x0 x1 x2 x3 : Nat) : Res :=
 (a106 x0 x1 x2 x3 ((r95 x0 x2), (r96 x1 x3)))
set_option maxRecDepth 100000 in
set_option maxHeartbeats 4000000 in
theorem e106 (x0 x1 x2 x3 : Nat) : evFn Try.prog ext T65 noL 200 Try.f106 [.agg #[.float .f32 x0, .float .f32 x1], .agg #[.float .f32 x2, .float .f32 x3]] st0 = firstT [(true, .agg #[.float .f32 ((r106 x0 x1 x2 x3).1), .float .f32 ((r106 x0 x1 x2 x3).2)], st0)] :=
 (show evFn Try.prog ext T65 noL 200 Try.f106 [.agg #[.float .f32 x0, .float .f32 x1], .agg #[.float .f32 x2, .float .f32 x3]] st0 = w106 x0 x1 x2 x3 from by kernel_rfl).trans
 (show w106 x0 x1 x2 x3 = a106 x0 x1 x2 x3 (r106 x0 x1 x2 x3) from by unfold w106 r106; exact rfl)
noncomputable def s106 (args : List Value) (s : St) : List (Bool × Value × St) :=
 match args, s.h with
 | [.agg ⟨[.float .f32 x0, .float .f32 x1]⟩, .agg ⟨[.float .f32 x2, .float .f32 x3]⟩], [] => [(true, .agg #[.float .f32 ((r106 x0 x1 x2 x3).1), .float .f32 ((r106 x0 x1 x2 x3).2)], st0)]
 | _, _ => T65 106 args s
noncomputable def T66 : CallF := addF T65 106 s106
set_option maxRecDepth 100000 in
set_option maxHeartbeats 4000000 in
theorem ok66 : CfOk Try.prog T66 := by
  refine cfOk_add ok65 fun args s r s' h1 h2 h3 => ?_
  unfold s106 at h3; split at h3
  · rename_i h; exact callOk ok65 Try.func106 h1 h2 h (lfOkF_no _ _).body (e106 _ _ _ _) rfl h3
  · exact ok65 _ _ _ _ _ h1 h2 h3

/-- impl.doSpans -/
noncomputable def r90 (x0 : Int) (x1 x2 x3 : Nat) (x4 : List (List Int)) : Nat × Nat × Nat :=
 let c35 := (r102 (Int.toNat ((x4.getD (x1 + 0) []).getD 0 0)) (Int.toNat ((x4.getD (x1 + 0) []).getD 1 0)) (Int.toNat ((x4.getD (x1 + (Int.toNat (IntKind.i64.wrap (((x2 : Nat) : Int) - 1)))) []).getD 0 0)) (Int.toNat ((x4.getD (x1 + (Int.toNat (IntKind.i64.wrap (((x2 : Nat) : Int) - 1)))) []).getD 1 0)))
 let c36 := (r103 (Int.toNat ((x4.getD (x1 + 0) []).getD 0 0)) (Int.toNat ((x4.getD (x1 + 0) []).getD 1 0)) (Int.toNat ((x4.getD (x1 + (Int.toNat (IntKind.i64.wrap (((x2 : Nat) : Int) - 1)))) []).getD 0 0)) (Int.toNat ((x4.getD (x1 + (Int.toNat (IntKind.i64.wrap (((x2 : Nat) : Int) - 1)))) []).getD 1 0)))
 let c37 := (r104 (Int.toNat ((x4.getD (x1 + 0) []).getD 0 0)) (Int.toNat ((x4.getD (x1 + 0) []).getD 1 0)) (Int.toNat ((x4.getD (x1 + (Int.toNat (IntKind.i64.wrap (((x2 : Nat) : Int) - 1)))) []).getD 0 0)) (Int.toNat ((x4.getD (x1 + (Int.toNat (IntKind.i64.wrap (((x2 : Nat) : Int) - 1)))) []).getD 1 0)))
 let c38 := (r105 (Int.toNat ((x4.getD (x1 + 0) []).getD 0 0)) (Int.toNat ((x4.getD (x1 + 0) []).getD 1 0)) (Int.toNat ((x4.getD (x1 + (Int.toNat (IntKind.i64.wrap (((x2 : Nat) : Int) - 1)))) []).getD 0 0)) (Int.toNat ((x4.getD (x1 + (Int.toNat (IntKind.i64.wrap (((x2 : Nat) : Int) - 1)))) []).getD 1 0)))
 let c39 := (r95 (Int.toNat ((x4.getD (x1 + 0) []).getD 0 0)) (Int.toNat ((x4.getD (x1 + (Int.toNat (IntKind.i64.wrap (((x2 : Nat) : Int) - 1)))) []).getD 0 0)))
 let c40 := (r95 (Int.toNat ((x4.getD (x1 + 0) []).getD 1 0)) (Int.toNat ((x4.getD (x1 + (Int.toNat (IntKind.i64.wrap (((x2 : Nat) : Int) - 1)))) []).getD 1 0)))
 let c41 := (r96 (Int.toNat ((x4.getD (x1 + 0) []).getD 0 0)) (Int.toNat ((x4.getD (x1 + (Int.toNat (IntKind.i64.wrap (((x2 : Nat) : Int) - 1)))) []).getD 0 0)))
 let c42 := (r96 (Int.toNat ((x4.getD (x1 + 0) []).getD 1 0)) (Int.toNat ((x4.getD (x1 + (Int.toNat (IntKind.i64.wrap (((x2 : Nat) : Int) - 1)))) []).getD 1 0)))
 let c43 := (r106 (Int.toNat ((x4.getD (x1 + 1) []).getD 0 0)) (Int.toNat ((x4.getD (x1 + 1) []).getD 1 0)) (Int.toNat ((x4.getD (x1 + (Int.toNat (IntKind.i64.wrap (((x2 : Nat) : Int) - 1)))) []).getD 0 0)) (Int.toNat ((x4.getD (x1 + (Int.toNat (IntKind.i64.wrap (((x2 : Nat) : Int) - 1)))) []).getD 1 0)))
 cond (Nat.blt 0 x2)
  (cond (Nat.blt (x1 + 0) x4.length)
   (cond ((decide ((0 : Int) ≤ (IntKind.i64.wrap (((x2 : Nat) : Int) - 1)))) && (Nat.blt (Int.toNat (IntKind.i64.wrap (((x2 : Nat) : Int) - 1))) x2))
    (cond (Nat.blt (x1 + (Int.toNat (IntKind.i64.wrap (((x2 : Nat) : Int) - 1)))) x4.length)
     (cond ((x0 : Int) == 5)
      (cond (Nat.beq (c35.1) 0)
       (0, (c35.2.1), (c35.2.2))
       (1, 0, 0))
      (cond ((x0 : Int) == 6)
       (cond (Nat.beq (c36.1) 0)
        (0, (c36.2.1), (c36.2.2))
        (1, 0, 0))
       (cond ((x0 : Int) == 7)
        (cond (Nat.beq (c37.1) 0)
         (0, (c37.2.1), (c37.2.2))
         (1, 0, 0))
        (cond ((x0 : Int) == 8)
         (0, (c38.1), (c38.2))
         (cond ((x0 : Int) == 9)
          (0, c39, c40)
          (cond ((x0 : Int) == 10)
           (0, c41, c42)
           (cond ((x0 : Int) == 12)
            (0, (fneg .f32 (Int.toNat ((x4.getD (x1 + 0) []).getD 1 0))), (fneg .f32 (Int.toNat ((x4.getD (x1 + 0) []).getD 0 0))))
            (cond (fgt .f32 (Int.toNat ((x4.getD (x1 + 0) []).getD 0 0)) 0)
             (cond (Nat.blt 1 x2)
              (cond (Nat.blt (x1 + 1) x4.length)
               (0, (Int.toNat ((x4.getD (x1 + 1) []).getD 0 0)), (Int.toNat ((x4.getD (x1 + 1) []).getD 1 0)))
               (1, 0, 0))
              (1, 0, 0))
             (cond (flt .f32 (Int.toNat ((x4.getD (x1 + 0) []).getD 1 0)) 0 || feq .f32 (Int.toNat ((x4.getD (x1 + 0) []).getD 1 0)) 0)
              (0, (Int.toNat ((x4.getD (x1 + (Int.toNat (IntKind.i64.wrap (((x2 : Nat) : Int) - 1)))) []).getD 0 0)), (Int.toNat ((x4.getD (x1 + (Int.toNat (IntKind.i64.wrap (((x2 : Nat) : Int) - 1)))) []).getD 1 0)))
              (cond (Nat.blt 1 x2)
               (cond (Nat.blt (x1 + 1) x4.length)
                (0, (c43.1), (c43.2))
                (1, 0, 0))
               (1, 0, 0)))))))))))
     (1, 0, 0))
    (1, 0, 0))
   (1, 0, 0))
  (1, 0, 0)
noncomputable def a90 (x0 : Int) (x1 x2 x3 : Nat) (x4 : List (List Int)) (p : Nat × Nat × Nat) : Res := firstT [((Nat.beq (p.1) 0), .agg #[.float .f32 (p.2.1), .float .f32 (p.2.2)], ⟨[⟨true, (some (.tab [.fl .f32, .fl .f32] x4))⟩], 1, []⟩)]
noncomputable def w90 (x0 : Int) (x1 x2 x3 : Nat) (x4 : List (List Int)) : Res :=
 let c35 := (r102 (Int.toNat ((x4.getD (x1 + 0) []).getD 0 0)) (Int.toNat ((x4.getD (x1 + 0) []).getD 1 0)) (Int.toNat ((x4.getD (x1 + (Int.toNat (IntKind.i64.wrap (((x2 : Nat) : Int) - 1)))) []).getD 0 0)) (Int.toNat ((x4.getD (x1 + (Int.toNat (IntKind.i64.wrap (((x2 : Nat) : Int) - 1)))) []).getD 1 0)))
 let c36 := (r103 (Int.toNat ((x4.getD (x1 + 0) []).getD 0 0)) (Int.toNat ((x4.getD (x1 + 0) []).getD 1 0)) (Int.toNat ((x4.getD (x1 + (Int.toNat (IntKind.i64.wrap (((x2 : Nat) : Int) - 1)))) []).getD 0 0)) (Int.toNat ((x4.getD (x1 + (Int.toNat (IntKind.i64.wrap (((x2 : Nat) : Int) - 1)))) []).getD 1 0)))
 let c37 := (r104 (Int.toNat ((x4.getD (x1 + 0) []).getD 0 0)) (Int.toNat ((x4.getD (x1 + 0) []).getD 1 0)) (Int.toNat ((x4.getD (x1 + (Int.toNat (IntKind.i64.wrap (((x2 : Nat) : Int) - 1)))) []).getD 0 0)) (Int.toNat ((x4.getD (x1 + (Int.toNat (IntKind.i64.wrap (((x2 : Nat) : Int) - 1)))) []).getD 1 0)))
 let c38 := (r105 (Int.toNat ((x4.getD (x1 + 0) []).getD 0 0)) (Int.toNat ((x4.getD (x1 + 0) []).getD 1 0)) (Int.toNat ((x4.getD (x1 + (Int.toNat (IntKind.i64.wrap (((x2 : Nat) : Int) - 1)))) []).getD 0 0)) (Int.toNat ((x4.getD (x1 + (Int.toNat (IntKind.i64.wrap (((x2 : Nat) : Int) - 1)))) []).getD 1 0)))
 let c39 := (r95 (Int.toNat ((x4.getD (x1 + 0) []).getD 0 0)) (Int.toNat ((x4.getD (x1 + (Int.toNat (IntKind.i64.wrap (((x2 : Nat) : Int) - 1)))) []).getD 0 0)))
 let c40 := (r95 (Int.toNat ((x4.getD (x1 + 0) []).getD 1 0)) (Int.toNat ((x4.getD (x1 + (Int.toNat (IntKind.i64.wrap (((x2 : Nat) : Int) - 1)))) []).getD 1 0)))
 let c41 := (r96 (Int.toNat ((x4.getD (x1 + 0) []).getD 0 0)) (Int.toNat ((x4.getD (x1 + (Int.toNat (IntKind.i64.wrap (((x2 : Nat) : Int) - 1)))) []).getD 0 0)))
 let c42 := (r96 (Int.toNat ((x4.getD (x1 + 0) []).getD 1 0)) (Int.toNat ((x4.getD (x1 + (Int.toNat (IntKind.i64.wrap (((x2 : Nat) : Int) - 1)))) []).getD 1 0)))
 let c43 := (r106 (Int.toNat ((x4.getD (x1 + 1) []).getD 0 0)) (Int.toNat ((x4.getD (x1 + 1) []).getD 1 0)) (Int.toNat ((x4.getD (x1 + (Int.toNat (IntKind.i64.wrap (((x2 : Nat) : Int) - 1)))) []).getD 0 0)) (Int.toNat ((x4.getD (x1 + (Int.toNat (IntKind.i64.wrap (((x2 : Nat) : Int) - 1)))) []).getD 1 0)))
 (cond (Nat.blt 0 x2)
 (cond (Nat.blt (x1 + 0) x4.length)
  (cond ((decide ((0 : Int) ≤ (IntKind.i64.wrap (((x2 : Nat) : Int) - 1)))) && (Nat.blt (Int.toNat (IntKind.i64.wrap (((x2 : Nat) : Int) - 1))) x2))
   (cond (Nat.blt (x1 + (Int.toNat (IntKind.i64.wrap (((x2 : Nat) : Int) - 1)))) x4.length)
    (cond ((x0 : Int) == 5)
     (cond (Nat.beq (c35.1) 0)
      (a90 x0 x1 x2 x3 x4 (0, (c35.2.1), (c35.2.2)))
      none)
     (cond ((x0 : Int) == 6)
      (cond (Nat.beq (c36.1) 0)
       (a90 x0 x1 x2 x3 x4 (0, (c36.2.1), (c36.2.2)))
       none)
      (cond ((x0 : Int) == 7)
       (cond (Nat.beq (c37.1) 0)
        (a90 x0 x1 x2 x3 x4 (0, (c37.2.1), (c37.2.2)))
        none)
       (cond ((x0 : Int) == 8)
        (a90 x0 x1 x2 x3 x4 (0, (c38.1), (c38.2)))
        (cond ((x0 : Int) == 9)
         (a90 x0 x1 x2 x3 x4 (0, c39, c40))
         (cond ((x0 : Int) == 10)
          (a90 x0 x1 x2 x3 x4 (0, c41, c42))
          (cond ((x0 : Int) == 12)
           (a90 x0 x1 x2 x3 x4 (0, (fneg .f32 (Int.toNat ((x4.getD (x1 + 0) []).getD 1 0))), (fneg .f32 (Int.toNat ((x4.getD (x1 + 0) []).getD 0 0)))))
           (cond (fgt .f32 (Int.toNat ((x4.getD (x1 + 0) []).getD 0 0)) 0)
            (cond (Nat.blt 1 x2)
             (cond (Nat.blt (x1 + 1) x4.length)
              (a90 x0 x1 x2 x3 x4 (0, (Int.toNat ((x4.getD (x1 + 1) []).getD 0 0)), (Int.toNat ((x4.getD (x1 + 1) []).getD 1 0))))
              none)
             none)
            (cond (flt .f32 (Int.toNat ((x4.getD (x1 + 0) []).getD 1 0)) 0 || feq .f32 (Int.toNat ((x4.getD (x1 + 0) []).getD 1 0)) 0)
             (a90 x0 x1 x2 x3 x4 (0, (Int.toNat ((x4.getD (x1 + (Int.toNat (IntKind.i64.wrap (((x2 : Nat) : Int) - 1)))) []).getD 0 0)), (Int.toNat ((x4.getD (x1 + (Int.toNat (IntKind.i64.wrap (((x2 : Nat) : Int) - 1)))) []).getD 1 0))))
             (cond (Nat.blt 1 x2)
              (cond (Nat.blt (x1 + 1) x4.length)
               (a90 x0 x1 x2 x3 x4 (0, (c43.1), (c43.2)))
               none)
              none))))))))))
    none)
   none)
  none)
 none)
set_option maxRecDepth 100000 in
set_option maxHeartbeats 4000000 in
theorem e90 (x0 : Int) (x1 x2 x3 : Nat) (x4 : List (List Int)) : evFn Try.prog ext T66 noL 200 Try.f90 [.int .i8 x0, .slice (some ⟨0, x1, some 0⟩) x2 x3] ⟨[⟨true, (some (.tab [.fl .f32, .fl .f32] x4))⟩], 1, []⟩ = firstT [((Nat.beq ((r90 x0 x1 x2 x3 x4).1) 0), .agg #[.float .f32 ((r90 x0 x1 x2 x3 x4).2.1), .float .f32 ((r90 x0 x1 x2 x3 x4).2.2)], ⟨[⟨true, (some (.tab [.fl .f32, .fl .f32] x4))⟩], 1, []⟩)] :=
 (show evFn Try.prog ext T66 noL 200 Try.f90 [.int .i8 x0, .slice (some ⟨0, x1, some 0⟩) x2 x3] ⟨[⟨true, (some (.tab [.fl .f32, .fl .f32] x4))⟩], 1, []⟩ = w90 x0 x1 x2 x3 x4 from by kernel_rfl).trans
 (show w90 x0 x1 x2 x3 x4 = a90 x0 x1 x2 x3 x4 (r90 x0 x1 x2 x3 x4) from by unfold w90 r90; exact (cond_app (a90 x0 x1 x2 x3 x4) _ (cond_app (a90 x0 x1 x2 x3 x4) _ (cond_app (a90 x0 x1 x2 x3 x4) _ (cond_app (a90 x0 x1 x2 x3 x4) _ (cond_app (a90 x0 x1 x2 x3 x4) _ (cond_app (a90 x0 x1 x2 x3 x4) _ rfl rfl) (cond_app (a90 x0 x1 x2 x3 x4) _ (cond_app (a90 x0 x1 x2 x3 x4) _ rfl rfl) (cond_app (a90 x0 x1 x2 x3 x4) _ (cond_app (a90 x0 x1 x2 x3 x4) _ rfl rfl) (cond_app (a90 x0 x1 x2 x3 x4) _ rfl (cond_app (a90 x0 x1 x2 x3 x4) _ rfl (cond_app (a90 x0 x1 x2 x3 x4) _ rfl (cond_app (a90 x0 x1 x2 x3 x4) _ rfl (cond_app (a90 x0 x1 x2 x3 x4) _ (cond_app (a90 x0 x1 x2 x3 x4) _ (cond_app (a90 x0 x1 x2 x3 x4) _ rfl rfl) rfl) (cond_app (a90 x0 x1 x2 x3 x4) _ rfl (cond_app (a90 x0 x1 x2 x3 x4) _ (cond_app (a90 x0 x1 x2 x3 x4) _ rfl rfl) rfl)))))))))) rfl) rfl) rfl) rfl))
noncomputable def s90 (args : List Value) (s : St) : List (Bool × Value × St) :=
 match args, s.h with
 | [.int .i8 x0, .slice (some ⟨f0, x1, some f1⟩) x2 x3], [⟨true, some (.tab [.fl .f32, .fl .f32] x4)⟩] => if f0 = 0 ∧ f1 = 0 then [((Nat.beq ((r90 x0 x1 x2 x3 x4).1) 0), .agg #[.float .f32 ((r90 x0 x1 x2 x3 x4).2.1), .float .f32 ((r90 x0 x1 x2 x3 x4).2.2)], ⟨[⟨true, (some (.tab [.fl .f32, .fl .f32] x4))⟩], 1, []⟩)] else T66 90 args s
 | _, _ => T66 90 args s
noncomputable def T67 : CallF := addF T66 90 s90
set_option maxRecDepth 100000 in
set_option maxHeartbeats 4000000 in
theorem ok67 : CfOk Try.prog T67 := by
  refine cfOk_add ok66 fun args s r s' h1 h2 h3 => ?_
  unfold s90 at h3; split at h3
  · rename_i h; split at h3
    · rename_i hc; obtain ⟨rfl, rfl⟩ := hc; exact callOk ok66 Try.func90 h1 h2 h (lfOkF_no _ _).body (e90 _ _ _ _ _) rfl h3
    · exact ok66 _ _ _ _ _ h1 h2 h3
  · exact ok66 _ _ _ _ _ h1 h2 h3
end Go.Proofs.Ytfclciebpnnieaa
