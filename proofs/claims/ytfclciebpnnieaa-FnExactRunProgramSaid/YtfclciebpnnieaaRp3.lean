/- What the functions that the statements reach answer, part 3. -/
import Derived.Test.YtfclciebpnnieaaRp2
namespace Go.Proofs.Ytfclciebpnnieaa
open Go.Ab
set_option maxHeartbeats 4000000
set_option maxRecDepth 100000

/-- impl.ValidProgram, loop 1: one round -/
noncomputable def b16l1 (ih : Int → Int → Int → Int → List (List Int) → List ByteArray → (Nat × Int × Int × Int × Int)) (x0 x1 x2 x3 : Int) (x4 : List (List Int)) (x5 : List ByteArray) : Nat × Int × Int × Int × Int :=
 cond (decide ((x3 : Int) < x2))
  (cond ((decide ((0 : Int) ≤ x3)) && (Nat.blt (Int.toNat x3) x4.length))
   (cond (decide ((((x4.getD (Int.toNat x3) []).getD 0 0) : Int) < 1))
    (0, x0, x1, 0, 0)
    (cond (decide ((((x4.getD (Int.toNat x3) []).getD 0 0) : Int) > 12))
     (0, x0, x1, 0, 0)
     (cond ((((x4.getD (Int.toNat x3) []).getD 0 0) : Int) == 1)
      (cond (((IntKind.i64.wrap ((x4.getD (Int.toNat x3) []).getD 1 0)) : Int) != 0)
       (0, x0, x1, 0, 0)
       (cond (!(r51 (Int.toNat ((x4.getD (Int.toNat x3) []).getD 2 0))))
        (0, x0, x1, 0, 0)
        (cond (feq .f32 (Int.toNat ((x4.getD (Int.toNat x3) []).getD 2 0)) 0)
         (cond (!(r52 (Int.toNat ((x4.getD (Int.toNat x3) []).getD 2 0))))
          (0, x0, x1, 0, 0)
          (cond ((((x4.getD (Int.toNat x3) []).getD 0 0) : Int) != 1)
           (cond (decide ((x0 : Int) < ((r53 ((x4.getD (Int.toNat x3) []).getD 0 0)).1)))
            (0, x0, x1, 0, 0)
            (cond (decide (((IntKind.i64.wrap (x0 + (IntKind.i64.wrap (((r53 ((x4.getD (Int.toNat x3) []).getD 0 0)).2) - ((r53 ((x4.getD (Int.toNat x3) []).getD 0 0)).1))))) : Int) > 20))
             (0, (IntKind.i64.wrap (x0 + (IntKind.i64.wrap (((r53 ((x4.getD (Int.toNat x3) []).getD 0 0)).2) - ((r53 ((x4.getD (Int.toNat x3) []).getD 0 0)).1))))), x1, 0, 0)
             (cond ((((x4.getD (Int.toNat x3) []).getD 0 0) : Int) == 4)
              (cond (((IntKind.i64.wrap (x0 + (IntKind.i64.wrap (((r53 ((x4.getD (Int.toNat x3) []).getD 0 0)).2) - ((r53 ((x4.getD (Int.toNat x3) []).getD 0 0)).1))))) : Int) != 0)
               (0, (IntKind.i64.wrap (x0 + (IntKind.i64.wrap (((r53 ((x4.getD (Int.toNat x3) []).getD 0 0)).2) - ((r53 ((x4.getD (Int.toNat x3) []).getD 0 0)).1))))), x1, 0, 0)
               (ih (IntKind.i64.wrap (x0 + (IntKind.i64.wrap (((r53 ((x4.getD (Int.toNat x3) []).getD 0 0)).2) - ((r53 ((x4.getD (Int.toNat x3) []).getD 0 0)).1))))) x1 x2 (IntKind.i64.wrap (x3 + 1)) x4 x5))
              (ih (IntKind.i64.wrap (x0 + (IntKind.i64.wrap (((r53 ((x4.getD (Int.toNat x3) []).getD 0 0)).2) - ((r53 ((x4.getD (Int.toNat x3) []).getD 0 0)).1))))) x1 x2 (IntKind.i64.wrap (x3 + 1)) x4 x5))))
           (cond (decide ((x0 : Int) < ((r53 ((x4.getD (Int.toNat x3) []).getD 0 0)).1)))
            (0, x0, x1, 0, 0)
            (cond (decide (((IntKind.i64.wrap (x0 + (IntKind.i64.wrap (((r53 ((x4.getD (Int.toNat x3) []).getD 0 0)).2) - ((r53 ((x4.getD (Int.toNat x3) []).getD 0 0)).1))))) : Int) > 20))
             (0, (IntKind.i64.wrap (x0 + (IntKind.i64.wrap (((r53 ((x4.getD (Int.toNat x3) []).getD 0 0)).2) - ((r53 ((x4.getD (Int.toNat x3) []).getD 0 0)).1))))), x1, 0, 0)
             (cond ((((x4.getD (Int.toNat x3) []).getD 0 0) : Int) == 4)
              (cond (((IntKind.i64.wrap (x0 + (IntKind.i64.wrap (((r53 ((x4.getD (Int.toNat x3) []).getD 0 0)).2) - ((r53 ((x4.getD (Int.toNat x3) []).getD 0 0)).1))))) : Int) != 0)
               (0, (IntKind.i64.wrap (x0 + (IntKind.i64.wrap (((r53 ((x4.getD (Int.toNat x3) []).getD 0 0)).2) - ((r53 ((x4.getD (Int.toNat x3) []).getD 0 0)).1))))), x1, 0, 0)
               (ih (IntKind.i64.wrap (x0 + (IntKind.i64.wrap (((r53 ((x4.getD (Int.toNat x3) []).getD 0 0)).2) - ((r53 ((x4.getD (Int.toNat x3) []).getD 0 0)).1))))) x1 x2 (IntKind.i64.wrap (x3 + 1)) x4 x5))
              (ih (IntKind.i64.wrap (x0 + (IntKind.i64.wrap (((r53 ((x4.getD (Int.toNat x3) []).getD 0 0)).2) - ((r53 ((x4.getD (Int.toNat x3) []).getD 0 0)).1))))) x1 x2 (IntKind.i64.wrap (x3 + 1)) x4 x5))))))
         (cond ((((x4.getD (Int.toNat x3) []).getD 0 0) : Int) != 1)
          (cond (!(r52 (Int.toNat ((x4.getD (Int.toNat x3) []).getD 2 0))))
           (0, x0, x1, 0, 0)
           (cond (decide ((x0 : Int) < ((r53 ((x4.getD (Int.toNat x3) []).getD 0 0)).1)))
            (0, x0, x1, 0, 0)
            (cond (decide (((IntKind.i64.wrap (x0 + (IntKind.i64.wrap (((r53 ((x4.getD (Int.toNat x3) []).getD 0 0)).2) - ((r53 ((x4.getD (Int.toNat x3) []).getD 0 0)).1))))) : Int) > 20))
             (0, (IntKind.i64.wrap (x0 + (IntKind.i64.wrap (((r53 ((x4.getD (Int.toNat x3) []).getD 0 0)).2) - ((r53 ((x4.getD (Int.toNat x3) []).getD 0 0)).1))))), x1, 0, 0)
             (cond ((((x4.getD (Int.toNat x3) []).getD 0 0) : Int) == 4)
              (cond (((IntKind.i64.wrap (x0 + (IntKind.i64.wrap (((r53 ((x4.getD (Int.toNat x3) []).getD 0 0)).2) - ((r53 ((x4.getD (Int.toNat x3) []).getD 0 0)).1))))) : Int) != 0)
               (0, (IntKind.i64.wrap (x0 + (IntKind.i64.wrap (((r53 ((x4.getD (Int.toNat x3) []).getD 0 0)).2) - ((r53 ((x4.getD (Int.toNat x3) []).getD 0 0)).1))))), x1, 0, 0)
               (ih (IntKind.i64.wrap (x0 + (IntKind.i64.wrap (((r53 ((x4.getD (Int.toNat x3) []).getD 0 0)).2) - ((r53 ((x4.getD (Int.toNat x3) []).getD 0 0)).1))))) x1 x2 (IntKind.i64.wrap (x3 + 1)) x4 x5))
              (ih (IntKind.i64.wrap (x0 + (IntKind.i64.wrap (((r53 ((x4.getD (Int.toNat x3) []).getD 0 0)).2) - ((r53 ((x4.getD (Int.toNat x3) []).getD 0 0)).1))))) x1 x2 (IntKind.i64.wrap (x3 + 1)) x4 x5)))))
          (cond (decide ((x0 : Int) < ((r53 ((x4.getD (Int.toNat x3) []).getD 0 0)).1)))
           (0, x0, x1, 0, 0)
           (cond (decide (((IntKind.i64.wrap (x0 + (IntKind.i64.wrap (((r53 ((x4.getD (Int.toNat x3) []).getD 0 0)).2) - ((r53 ((x4.getD (Int.toNat x3) []).getD 0 0)).1))))) : Int) > 20))
            (0, (IntKind.i64.wrap (x0 + (IntKind.i64.wrap (((r53 ((x4.getD (Int.toNat x3) []).getD 0 0)).2) - ((r53 ((x4.getD (Int.toNat x3) []).getD 0 0)).1))))), x1, 0, 0)
            (cond ((((x4.getD (Int.toNat x3) []).getD 0 0) : Int) == 4)
             (cond (((IntKind.i64.wrap (x0 + (IntKind.i64.wrap (((r53 ((x4.getD (Int.toNat x3) []).getD 0 0)).2) - ((r53 ((x4.getD (Int.toNat x3) []).getD 0 0)).1))))) : Int) != 0)
              (0, (IntKind.i64.wrap (x0 + (IntKind.i64.wrap (((r53 ((x4.getD (Int.toNat x3) []).getD 0 0)).2) - ((r53 ((x4.getD (Int.toNat x3) []).getD 0 0)).1))))), x1, 0, 0)
              (ih (IntKind.i64.wrap (x0 + (IntKind.i64.wrap (((r53 ((x4.getD (Int.toNat x3) []).getD 0 0)).2) - ((r53 ((x4.getD (Int.toNat x3) []).getD 0 0)).1))))) x1 x2 (IntKind.i64.wrap (x3 + 1)) x4 x5))
             (ih (IntKind.i64.wrap (x0 + (IntKind.i64.wrap (((r53 ((x4.getD (Int.toNat x3) []).getD 0 0)).2) - ((r53 ((x4.getD (Int.toNat x3) []).getD 0 0)).1))))) x1 x2 (IntKind.i64.wrap (x3 + 1)) x4 x5))))))))
      (cond ((((x4.getD (Int.toNat x3) []).getD 0 0) : Int) == 2)
       (cond (decide (((IntKind.i64.wrap ((x4.getD (Int.toNat x3) []).getD 1 0)) : Int) < 0))
        (0, x0, x1, 0, 0)
        (cond (decide (((IntKind.i64.wrap ((x4.getD (Int.toNat x3) []).getD 1 0)) : Int) ≥ 4))
         (0, x0, x1, 0, 0)
         (cond ((((x4.getD (Int.toNat x3) []).getD 0 0) : Int) != 1)
          (cond (!(r52 (Int.toNat ((x4.getD (Int.toNat x3) []).getD 2 0))))
           (0, x0, x1, 0, 0)
           (cond (decide ((x0 : Int) < ((r53 ((x4.getD (Int.toNat x3) []).getD 0 0)).1)))
            (0, x0, x1, 0, 0)
            (cond (decide (((IntKind.i64.wrap (x0 + (IntKind.i64.wrap (((r53 ((x4.getD (Int.toNat x3) []).getD 0 0)).2) - ((r53 ((x4.getD (Int.toNat x3) []).getD 0 0)).1))))) : Int) > 20))
             (0, (IntKind.i64.wrap (x0 + (IntKind.i64.wrap (((r53 ((x4.getD (Int.toNat x3) []).getD 0 0)).2) - ((r53 ((x4.getD (Int.toNat x3) []).getD 0 0)).1))))), x1, 0, 0)
             (cond ((((x4.getD (Int.toNat x3) []).getD 0 0) : Int) == 4)
              (cond (((IntKind.i64.wrap (x0 + (IntKind.i64.wrap (((r53 ((x4.getD (Int.toNat x3) []).getD 0 0)).2) - ((r53 ((x4.getD (Int.toNat x3) []).getD 0 0)).1))))) : Int) != 0)
               (0, (IntKind.i64.wrap (x0 + (IntKind.i64.wrap (((r53 ((x4.getD (Int.toNat x3) []).getD 0 0)).2) - ((r53 ((x4.getD (Int.toNat x3) []).getD 0 0)).1))))), x1, 0, 0)
               (ih (IntKind.i64.wrap (x0 + (IntKind.i64.wrap (((r53 ((x4.getD (Int.toNat x3) []).getD 0 0)).2) - ((r53 ((x4.getD (Int.toNat x3) []).getD 0 0)).1))))) x1 x2 (IntKind.i64.wrap (x3 + 1)) x4 x5))
              (ih (IntKind.i64.wrap (x0 + (IntKind.i64.wrap (((r53 ((x4.getD (Int.toNat x3) []).getD 0 0)).2) - ((r53 ((x4.getD (Int.toNat x3) []).getD 0 0)).1))))) x1 x2 (IntKind.i64.wrap (x3 + 1)) x4 x5)))))
          (cond (decide ((x0 : Int) < ((r53 ((x4.getD (Int.toNat x3) []).getD 0 0)).1)))
           (0, x0, x1, 0, 0)
           (cond (decide (((IntKind.i64.wrap (x0 + (IntKind.i64.wrap (((r53 ((x4.getD (Int.toNat x3) []).getD 0 0)).2) - ((r53 ((x4.getD (Int.toNat x3) []).getD 0 0)).1))))) : Int) > 20))
            (0, (IntKind.i64.wrap (x0 + (IntKind.i64.wrap (((r53 ((x4.getD (Int.toNat x3) []).getD 0 0)).2) - ((r53 ((x4.getD (Int.toNat x3) []).getD 0 0)).1))))), x1, 0, 0)
            (cond ((((x4.getD (Int.toNat x3) []).getD 0 0) : Int) == 4)
             (cond (((IntKind.i64.wrap (x0 + (IntKind.i64.wrap (((r53 ((x4.getD (Int.toNat x3) []).getD 0 0)).2) - ((r53 ((x4.getD (Int.toNat x3) []).getD 0 0)).1))))) : Int) != 0)
              (0, (IntKind.i64.wrap (x0 + (IntKind.i64.wrap (((r53 ((x4.getD (Int.toNat x3) []).getD 0 0)).2) - ((r53 ((x4.getD (Int.toNat x3) []).getD 0 0)).1))))), x1, 0, 0)
              (ih (IntKind.i64.wrap (x0 + (IntKind.i64.wrap (((r53 ((x4.getD (Int.toNat x3) []).getD 0 0)).2) - ((r53 ((x4.getD (Int.toNat x3) []).getD 0 0)).1))))) x1 x2 (IntKind.i64.wrap (x3 + 1)) x4 x5))
             (ih (IntKind.i64.wrap (x0 + (IntKind.i64.wrap (((r53 ((x4.getD (Int.toNat x3) []).getD 0 0)).2) - ((r53 ((x4.getD (Int.toNat x3) []).getD 0 0)).1))))) x1 x2 (IntKind.i64.wrap (x3 + 1)) x4 x5)))))))
       (cond ((((x4.getD (Int.toNat x3) []).getD 0 0) : Int) == 3)
        (cond (decide (((IntKind.i64.wrap ((x4.getD (Int.toNat x3) []).getD 1 0)) : Int) < 0))
         (0, x0, x1, 0, 0)
         (cond (decide (((IntKind.i64.wrap ((x4.getD (Int.toNat x3) []).getD 1 0)) : Int) ≥ x1))
          (0, x0, x1, 0, 0)
          (cond ((((x4.getD (Int.toNat x3) []).getD 0 0) : Int) != 1)
           (cond (!(r52 (Int.toNat ((x4.getD (Int.toNat x3) []).getD 2 0))))
            (0, x0, x1, 0, 0)
            (cond (decide ((x0 : Int) < ((r53 ((x4.getD (Int.toNat x3) []).getD 0 0)).1)))
             (0, x0, x1, 0, 0)
             (cond (decide (((IntKind.i64.wrap (x0 + (IntKind.i64.wrap (((r53 ((x4.getD (Int.toNat x3) []).getD 0 0)).2) - ((r53 ((x4.getD (Int.toNat x3) []).getD 0 0)).1))))) : Int) > 20))
              (0, (IntKind.i64.wrap (x0 + (IntKind.i64.wrap (((r53 ((x4.getD (Int.toNat x3) []).getD 0 0)).2) - ((r53 ((x4.getD (Int.toNat x3) []).getD 0 0)).1))))), x1, 0, 0)
              (cond ((((x4.getD (Int.toNat x3) []).getD 0 0) : Int) == 4)
               (cond (((IntKind.i64.wrap (x0 + (IntKind.i64.wrap (((r53 ((x4.getD (Int.toNat x3) []).getD 0 0)).2) - ((r53 ((x4.getD (Int.toNat x3) []).getD 0 0)).1))))) : Int) != 0)
                (0, (IntKind.i64.wrap (x0 + (IntKind.i64.wrap (((r53 ((x4.getD (Int.toNat x3) []).getD 0 0)).2) - ((r53 ((x4.getD (Int.toNat x3) []).getD 0 0)).1))))), x1, 0, 0)
                (ih (IntKind.i64.wrap (x0 + (IntKind.i64.wrap (((r53 ((x4.getD (Int.toNat x3) []).getD 0 0)).2) - ((r53 ((x4.getD (Int.toNat x3) []).getD 0 0)).1))))) x1 x2 (IntKind.i64.wrap (x3 + 1)) x4 x5))
               (ih (IntKind.i64.wrap (x0 + (IntKind.i64.wrap (((r53 ((x4.getD (Int.toNat x3) []).getD 0 0)).2) - ((r53 ((x4.getD (Int.toNat x3) []).getD 0 0)).1))))) x1 x2 (IntKind.i64.wrap (x3 + 1)) x4 x5)))))
           (cond (decide ((x0 : Int) < ((r53 ((x4.getD (Int.toNat x3) []).getD 0 0)).1)))
            (0, x0, x1, 0, 0)
            (cond (decide (((IntKind.i64.wrap (x0 + (IntKind.i64.wrap (((r53 ((x4.getD (Int.toNat x3) []).getD 0 0)).2) - ((r53 ((x4.getD (Int.toNat x3) []).getD 0 0)).1))))) : Int) > 20))
             (0, (IntKind.i64.wrap (x0 + (IntKind.i64.wrap (((r53 ((x4.getD (Int.toNat x3) []).getD 0 0)).2) - ((r53 ((x4.getD (Int.toNat x3) []).getD 0 0)).1))))), x1, 0, 0)
             (cond ((((x4.getD (Int.toNat x3) []).getD 0 0) : Int) == 4)
              (cond (((IntKind.i64.wrap (x0 + (IntKind.i64.wrap (((r53 ((x4.getD (Int.toNat x3) []).getD 0 0)).2) - ((r53 ((x4.getD (Int.toNat x3) []).getD 0 0)).1))))) : Int) != 0)
               (0, (IntKind.i64.wrap (x0 + (IntKind.i64.wrap (((r53 ((x4.getD (Int.toNat x3) []).getD 0 0)).2) - ((r53 ((x4.getD (Int.toNat x3) []).getD 0 0)).1))))), x1, 0, 0)
               (ih (IntKind.i64.wrap (x0 + (IntKind.i64.wrap (((r53 ((x4.getD (Int.toNat x3) []).getD 0 0)).2) - ((r53 ((x4.getD (Int.toNat x3) []).getD 0 0)).1))))) x1 x2 (IntKind.i64.wrap (x3 + 1)) x4 x5))
              (ih (IntKind.i64.wrap (x0 + (IntKind.i64.wrap (((r53 ((x4.getD (Int.toNat x3) []).getD 0 0)).2) - ((r53 ((x4.getD (Int.toNat x3) []).getD 0 0)).1))))) x1 x2 (IntKind.i64.wrap (x3 + 1)) x4 x5)))))))
        (cond ((((x4.getD (Int.toNat x3) []).getD 0 0) : Int) == 4)
         (cond (((IntKind.i64.wrap ((x4.getD (Int.toNat x3) []).getD 1 0)) : Int) != x1)
          (0, x0, x1, 0, 0)
          (cond (decide ((x1 : Int) ≥ ((x5.length : Nat) : Int)))
           (0, x0, x1, 0, 0)
           (cond ((((x4.getD (Int.toNat x3) []).getD 0 0) : Int) != 1)
            (cond (!(r52 (Int.toNat ((x4.getD (Int.toNat x3) []).getD 2 0))))
             (0, x0, (IntKind.i64.wrap (x1 + 1)), 0, 0)
             (cond (decide ((x0 : Int) < ((r53 ((x4.getD (Int.toNat x3) []).getD 0 0)).1)))
              (0, x0, (IntKind.i64.wrap (x1 + 1)), 0, 0)
              (cond (decide (((IntKind.i64.wrap (x0 + (IntKind.i64.wrap (((r53 ((x4.getD (Int.toNat x3) []).getD 0 0)).2) - ((r53 ((x4.getD (Int.toNat x3) []).getD 0 0)).1))))) : Int) > 20))
               (0, (IntKind.i64.wrap (x0 + (IntKind.i64.wrap (((r53 ((x4.getD (Int.toNat x3) []).getD 0 0)).2) - ((r53 ((x4.getD (Int.toNat x3) []).getD 0 0)).1))))), (IntKind.i64.wrap (x1 + 1)), 0, 0)
               (cond (((IntKind.i64.wrap (x0 + (IntKind.i64.wrap (((r53 ((x4.getD (Int.toNat x3) []).getD 0 0)).2) - ((r53 ((x4.getD (Int.toNat x3) []).getD 0 0)).1))))) : Int) != 0)
                (0, (IntKind.i64.wrap (x0 + (IntKind.i64.wrap (((r53 ((x4.getD (Int.toNat x3) []).getD 0 0)).2) - ((r53 ((x4.getD (Int.toNat x3) []).getD 0 0)).1))))), (IntKind.i64.wrap (x1 + 1)), 0, 0)
                (ih (IntKind.i64.wrap (x0 + (IntKind.i64.wrap (((r53 ((x4.getD (Int.toNat x3) []).getD 0 0)).2) - ((r53 ((x4.getD (Int.toNat x3) []).getD 0 0)).1))))) (IntKind.i64.wrap (x1 + 1)) x2 (IntKind.i64.wrap (x3 + 1)) x4 x5)))))
            (cond (decide ((x0 : Int) < ((r53 ((x4.getD (Int.toNat x3) []).getD 0 0)).1)))
             (0, x0, (IntKind.i64.wrap (x1 + 1)), 0, 0)
             (cond (decide (((IntKind.i64.wrap (x0 + (IntKind.i64.wrap (((r53 ((x4.getD (Int.toNat x3) []).getD 0 0)).2) - ((r53 ((x4.getD (Int.toNat x3) []).getD 0 0)).1))))) : Int) > 20))
              (0, (IntKind.i64.wrap (x0 + (IntKind.i64.wrap (((r53 ((x4.getD (Int.toNat x3) []).getD 0 0)).2) - ((r53 ((x4.getD (Int.toNat x3) []).getD 0 0)).1))))), (IntKind.i64.wrap (x1 + 1)), 0, 0)
              (cond (((IntKind.i64.wrap (x0 + (IntKind.i64.wrap (((r53 ((x4.getD (Int.toNat x3) []).getD 0 0)).2) - ((r53 ((x4.getD (Int.toNat x3) []).getD 0 0)).1))))) : Int) != 0)
               (0, (IntKind.i64.wrap (x0 + (IntKind.i64.wrap (((r53 ((x4.getD (Int.toNat x3) []).getD 0 0)).2) - ((r53 ((x4.getD (Int.toNat x3) []).getD 0 0)).1))))), (IntKind.i64.wrap (x1 + 1)), 0, 0)
               (ih (IntKind.i64.wrap (x0 + (IntKind.i64.wrap (((r53 ((x4.getD (Int.toNat x3) []).getD 0 0)).2) - ((r53 ((x4.getD (Int.toNat x3) []).getD 0 0)).1))))) (IntKind.i64.wrap (x1 + 1)) x2 (IntKind.i64.wrap (x3 + 1)) x4 x5)))))))
         (cond (((IntKind.i64.wrap ((x4.getD (Int.toNat x3) []).getD 1 0)) : Int) != 0)
          (0, x0, x1, 0, 0)
          (cond ((((x4.getD (Int.toNat x3) []).getD 0 0) : Int) != 1)
           (cond (!(r52 (Int.toNat ((x4.getD (Int.toNat x3) []).getD 2 0))))
            (0, x0, x1, 0, 0)
            (cond (decide ((x0 : Int) < ((r53 ((x4.getD (Int.toNat x3) []).getD 0 0)).1)))
             (0, x0, x1, 0, 0)
             (cond (decide (((IntKind.i64.wrap (x0 + (IntKind.i64.wrap (((r53 ((x4.getD (Int.toNat x3) []).getD 0 0)).2) - ((r53 ((x4.getD (Int.toNat x3) []).getD 0 0)).1))))) : Int) > 20))
              (0, (IntKind.i64.wrap (x0 + (IntKind.i64.wrap (((r53 ((x4.getD (Int.toNat x3) []).getD 0 0)).2) - ((r53 ((x4.getD (Int.toNat x3) []).getD 0 0)).1))))), x1, 0, 0)
              (ih (IntKind.i64.wrap (x0 + (IntKind.i64.wrap (((r53 ((x4.getD (Int.toNat x3) []).getD 0 0)).2) - ((r53 ((x4.getD (Int.toNat x3) []).getD 0 0)).1))))) x1 x2 (IntKind.i64.wrap (x3 + 1)) x4 x5))))
           (cond (decide ((x0 : Int) < ((r53 ((x4.getD (Int.toNat x3) []).getD 0 0)).1)))
            (0, x0, x1, 0, 0)
            (cond (decide (((IntKind.i64.wrap (x0 + (IntKind.i64.wrap (((r53 ((x4.getD (Int.toNat x3) []).getD 0 0)).2) - ((r53 ((x4.getD (Int.toNat x3) []).getD 0 0)).1))))) : Int) > 20))
             (0, (IntKind.i64.wrap (x0 + (IntKind.i64.wrap (((r53 ((x4.getD (Int.toNat x3) []).getD 0 0)).2) - ((r53 ((x4.getD (Int.toNat x3) []).getD 0 0)).1))))), x1, 0, 0)
             (ih (IntKind.i64.wrap (x0 + (IntKind.i64.wrap (((r53 ((x4.getD (Int.toNat x3) []).getD 0 0)).2) - ((r53 ((x4.getD (Int.toNat x3) []).getD 0 0)).1))))) x1 x2 (IntKind.i64.wrap (x3 + 1)) x4 x5)))))))))))
   (2, 0, 0, 0, 0))
  (1, 0, 0, x0, x1)
noncomputable def r16l1 : Nat → Int → Int → Int → Int → List (List Int) → List ByteArray → (Nat × Int × Int × Int × Int)
 | 0 => fun _ _ _ _ _ _ => (2, 0, 0, 0, 0)
 | m + 1 => b16l1 (r16l1 m)
noncomputable def a16l1 (x0 x1 x2 x3 : Int) (x4 : List (List Int)) (x5 : List ByteArray) (p : Nat × Int × Int × Int × Int) : Option (Fin' × List Value × St) := firstT ([((Nat.beq (p.1) 0), .ret, [.pointer (some ⟨0, 0, some 0⟩), .bool false, .int .i64 (p.2.1), .int .i64 (p.2.2.1)], ⟨[⟨true, (some (.cells [wsl 2, wsl 1]))⟩, ⟨true, (some (.tab [.int .i8, .int .i16, .fl .f32] x4))⟩, ⟨true, (some (.strs x5))⟩], 3, []⟩), ((Nat.beq (p.1) 1), .exit 2, [.pointer (some ⟨0, 0, some 0⟩), anyV, .int .i64 (p.2.2.2.1), .int .i64 (p.2.2.2.2)], ⟨[⟨true, (some (.cells [wsl 2, wsl 1]))⟩, ⟨true, (some (.tab [.int .i8, .int .i16, .fl .f32] x4))⟩, ⟨true, (some (.strs x5))⟩], 3, []⟩)].map fun (b, x) => (b, (x.1, frameOf 161 [1, 2, 5, 6] x.2.1, x.2.2)))
noncomputable def u16l1 (x0 x1 x2 x3 : Int) (x4 : List (List Int)) (x5 : List ByteArray) (p : Nat × Int × Int × Int × Int) : Option (Fin' × List Value × St) := alts ([((Nat.beq (p.1) 0), .ret, [.pointer (some ⟨0, 0, some 0⟩), .bool false, .int .i64 (p.2.1), .int .i64 (p.2.2.1)], ⟨[⟨true, (some (.cells [wsl 2, wsl 1]))⟩, ⟨true, (some (.tab [.int .i8, .int .i16, .fl .f32] x4))⟩, ⟨true, (some (.strs x5))⟩], 3, []⟩), ((Nat.beq (p.1) 1), .exit 2, [.pointer (some ⟨0, 0, some 0⟩), anyV, .int .i64 (p.2.2.2.1), .int .i64 (p.2.2.2.2)], ⟨[⟨true, (some (.cells [wsl 2, wsl 1]))⟩, ⟨true, (some (.tab [.int .i8, .int .i16, .fl .f32] x4))⟩, ⟨true, (some (.strs x5))⟩], 3, []⟩)].map fun (b, x) => (b, (x.1, frameOf 161 [1, 2, 5, 6] x.2.1, x.2.2))) some
theorem v16l1 (x0 x1 x2 x3 : Int) (x4 : List (List Int)) (x5 : List ByteArray) (p : Nat × Int × Int × Int × Int) : u16l1 x0 x1 x2 x3 x4 x5 p = a16l1 x0 x1 x2 x3 x4 x5 p := alts_first _
noncomputable def q16l1 (m : Nat) : SumK := fun vals s =>
 match vals, s.h with
 | [.pointer (some ⟨f0, f1, some f2⟩), .int .i64 x0, .int .i64 x1, .iface f3 .nilIface, .int .i64 x2, .int .i64 x3], [⟨true, some (.cells [.iface f4 .nilIface, .iface f5 .nilIface])⟩, ⟨true, some (.tab [.int .i8, .int .i16, .fl .f32] x4)⟩, ⟨true, some (.strs x5)⟩] => if f0 = 0 ∧ f1 = 0 ∧ f2 = 0 ∧ f3 = 1 ∧ f4 = 2 ∧ f5 = 1 then [((Nat.beq ((r16l1 m x0 x1 x2 x3 x4 x5).1) 0), .ret, [.pointer (some ⟨0, 0, some 0⟩), .bool false, .int .i64 ((r16l1 m x0 x1 x2 x3 x4 x5).2.1), .int .i64 ((r16l1 m x0 x1 x2 x3 x4 x5).2.2.1)], ⟨[⟨true, (some (.cells [wsl 2, wsl 1]))⟩, ⟨true, (some (.tab [.int .i8, .int .i16, .fl .f32] x4))⟩, ⟨true, (some (.strs x5))⟩], 3, []⟩), ((Nat.beq ((r16l1 m x0 x1 x2 x3 x4 x5).1) 1), .exit 2, [.pointer (some ⟨0, 0, some 0⟩), anyV, .int .i64 ((r16l1 m x0 x1 x2 x3 x4 x5).2.2.2.1), .int .i64 ((r16l1 m x0 x1 x2 x3 x4 x5).2.2.2.2)], ⟨[⟨true, (some (.cells [wsl 2, wsl 1]))⟩, ⟨true, (some (.tab [.int .i8, .int .i16, .fl .f32] x4))⟩, ⟨true, (some (.strs x5))⟩], 3, []⟩)] else noQ vals s
 | _, _ => noQ vals s
noncomputable def w16l1 (ih : Int → Int → Int → Int → List (List Int) → List ByteArray → (Nat × Int × Int × Int × Int)) (x0 x1 x2 x3 : Int) (x4 : List (List Int)) (x5 : List ByteArray) : Option (Fin' × List Value × St) :=
 (cond (decide ((x3 : Int) < x2))
 (cond ((decide ((0 : Int) ≤ x3)) && (Nat.blt (Int.toNat x3) x4.length))
  (cond (Nat.blt (Int.toNat x3) x4.length)
   (cond (decide ((((x4.getD (Int.toNat x3) []).getD 0 0) : Int) < 1))
    (a16l1 x0 x1 x2 x3 x4 x5 (0, x0, x1, 0, 0))
    (cond (decide ((((x4.getD (Int.toNat x3) []).getD 0 0) : Int) > 12))
     (a16l1 x0 x1 x2 x3 x4 x5 (0, x0, x1, 0, 0))
     (cond ((((x4.getD (Int.toNat x3) []).getD 0 0) : Int) == 1)
      (cond (((IntKind.i64.wrap ((x4.getD (Int.toNat x3) []).getD 1 0)) : Int) != 0)
       (a16l1 x0 x1 x2 x3 x4 x5 (0, x0, x1, 0, 0))
       (cond (!(r51 (Int.toNat ((x4.getD (Int.toNat x3) []).getD 2 0))))
        (a16l1 x0 x1 x2 x3 x4 x5 (0, x0, x1, 0, 0))
        (cond (feq .f32 (Int.toNat ((x4.getD (Int.toNat x3) []).getD 2 0)) 0)
         (cond (!(r52 (Int.toNat ((x4.getD (Int.toNat x3) []).getD 2 0))))
          (a16l1 x0 x1 x2 x3 x4 x5 (0, x0, x1, 0, 0))
          (cond ((((x4.getD (Int.toNat x3) []).getD 0 0) : Int) != 1)
           (cond (!(r52 (Int.toNat ((x4.getD (Int.toNat x3) []).getD 2 0))))
            (some (.ret, frameOf 161 [1, 2, 5, 6] [.pointer (some ⟨0, 0, some 0⟩), .bool false, .int .i64 x0, .int .i64 x1], ⟨[⟨true, (some (.cells [wsl 2, wsl 1]))⟩, ⟨true, (some (.tab [.int .i8, .int .i16, .fl .f32] x4))⟩, ⟨true, (some (.strs x5))⟩], 3, []⟩))
            (cond (decide ((x0 : Int) < ((r53 ((x4.getD (Int.toNat x3) []).getD 0 0)).1)))
             (a16l1 x0 x1 x2 x3 x4 x5 (0, x0, x1, 0, 0))
             (cond (decide (((IntKind.i64.wrap (x0 + (IntKind.i64.wrap (((r53 ((x4.getD (Int.toNat x3) []).getD 0 0)).2) - ((r53 ((x4.getD (Int.toNat x3) []).getD 0 0)).1))))) : Int) > 20))
              (a16l1 x0 x1 x2 x3 x4 x5 (0, (IntKind.i64.wrap (x0 + (IntKind.i64.wrap (((r53 ((x4.getD (Int.toNat x3) []).getD 0 0)).2) - ((r53 ((x4.getD (Int.toNat x3) []).getD 0 0)).1))))), x1, 0, 0))
              (cond ((((x4.getD (Int.toNat x3) []).getD 0 0) : Int) == 4)
               (cond (((IntKind.i64.wrap (x0 + (IntKind.i64.wrap (((r53 ((x4.getD (Int.toNat x3) []).getD 0 0)).2) - ((r53 ((x4.getD (Int.toNat x3) []).getD 0 0)).1))))) : Int) != 0)
                (a16l1 x0 x1 x2 x3 x4 x5 (0, (IntKind.i64.wrap (x0 + (IntKind.i64.wrap (((r53 ((x4.getD (Int.toNat x3) []).getD 0 0)).2) - ((r53 ((x4.getD (Int.toNat x3) []).getD 0 0)).1))))), x1, 0, 0))
                (u16l1 x0 x1 x2 x3 x4 x5 (ih (IntKind.i64.wrap (x0 + (IntKind.i64.wrap (((r53 ((x4.getD (Int.toNat x3) []).getD 0 0)).2) - ((r53 ((x4.getD (Int.toNat x3) []).getD 0 0)).1))))) x1 x2 (IntKind.i64.wrap (x3 + 1)) x4 x5)))
               (u16l1 x0 x1 x2 x3 x4 x5 (ih (IntKind.i64.wrap (x0 + (IntKind.i64.wrap (((r53 ((x4.getD (Int.toNat x3) []).getD 0 0)).2) - ((r53 ((x4.getD (Int.toNat x3) []).getD 0 0)).1))))) x1 x2 (IntKind.i64.wrap (x3 + 1)) x4 x5))))))
           (cond (decide ((x0 : Int) < ((r53 ((x4.getD (Int.toNat x3) []).getD 0 0)).1)))
            (a16l1 x0 x1 x2 x3 x4 x5 (0, x0, x1, 0, 0))
            (cond (decide (((IntKind.i64.wrap (x0 + (IntKind.i64.wrap (((r53 ((x4.getD (Int.toNat x3) []).getD 0 0)).2) - ((r53 ((x4.getD (Int.toNat x3) []).getD 0 0)).1))))) : Int) > 20))
             (a16l1 x0 x1 x2 x3 x4 x5 (0, (IntKind.i64.wrap (x0 + (IntKind.i64.wrap (((r53 ((x4.getD (Int.toNat x3) []).getD 0 0)).2) - ((r53 ((x4.getD (Int.toNat x3) []).getD 0 0)).1))))), x1, 0, 0))
             (cond ((((x4.getD (Int.toNat x3) []).getD 0 0) : Int) == 4)
              (cond (((IntKind.i64.wrap (x0 + (IntKind.i64.wrap (((r53 ((x4.getD (Int.toNat x3) []).getD 0 0)).2) - ((r53 ((x4.getD (Int.toNat x3) []).getD 0 0)).1))))) : Int) != 0)
               (a16l1 x0 x1 x2 x3 x4 x5 (0, (IntKind.i64.wrap (x0 + (IntKind.i64.wrap (((r53 ((x4.getD (Int.toNat x3) []).getD 0 0)).2) - ((r53 ((x4.getD (Int.toNat x3) []).getD 0 0)).1))))), x1, 0, 0))
               (u16l1 x0 x1 x2 x3 x4 x5 (ih (IntKind.i64.wrap (x0 + (IntKind.i64.wrap (((r53 ((x4.getD (Int.toNat x3) []).getD 0 0)).2) - ((r53 ((x4.getD (Int.toNat x3) []).getD 0 0)).1))))) x1 x2 (IntKind.i64.wrap (x3 + 1)) x4 x5)))
              (u16l1 x0 x1 x2 x3 x4 x5 (ih (IntKind.i64.wrap (x0 + (IntKind.i64.wrap (((r53 ((x4.getD (Int.toNat x3) []).getD 0 0)).2) - ((r53 ((x4.getD (Int.toNat x3) []).getD 0 0)).1))))) x1 x2 (IntKind.i64.wrap (x3 + 1)) x4 x5)))))))
         (cond ((((x4.getD (Int.toNat x3) []).getD 0 0) : Int) != 1)
          (cond (!(r52 (Int.toNat ((x4.getD (Int.toNat x3) []).getD 2 0))))
           (a16l1 x0 x1 x2 x3 x4 x5 (0, x0, x1, 0, 0))
           (cond (decide ((x0 : Int) < ((r53 ((x4.getD (Int.toNat x3) []).getD 0 0)).1)))
            (a16l1 x0 x1 x2 x3 x4 x5 (0, x0, x1, 0, 0))
            (cond (decide (((IntKind.i64.wrap (x0 + (IntKind.i64.wrap (((r53 ((x4.getD (Int.toNat x3) []).getD 0 0)).2) - ((r53 ((x4.getD (Int.toNat x3) []).getD 0 0)).1))))) : Int) > 20))
             (a16l1 x0 x1 x2 x3 x4 x5 (0, (IntKind.i64.wrap (x0 + (IntKind.i64.wrap (((r53 ((x4.getD (Int.toNat x3) []).getD 0 0)).2) - ((r53 ((x4.getD (Int.toNat x3) []).getD 0 0)).1))))), x1, 0, 0))
             (cond ((((x4.getD (Int.toNat x3) []).getD 0 0) : Int) == 4)
              (cond (((IntKind.i64.wrap (x0 + (IntKind.i64.wrap (((r53 ((x4.getD (Int.toNat x3) []).getD 0 0)).2) - ((r53 ((x4.getD (Int.toNat x3) []).getD 0 0)).1))))) : Int) != 0)
               (a16l1 x0 x1 x2 x3 x4 x5 (0, (IntKind.i64.wrap (x0 + (IntKind.i64.wrap (((r53 ((x4.getD (Int.toNat x3) []).getD 0 0)).2) - ((r53 ((x4.getD (Int.toNat x3) []).getD 0 0)).1))))), x1, 0, 0))
               (u16l1 x0 x1 x2 x3 x4 x5 (ih (IntKind.i64.wrap (x0 + (IntKind.i64.wrap (((r53 ((x4.getD (Int.toNat x3) []).getD 0 0)).2) - ((r53 ((x4.getD (Int.toNat x3) []).getD 0 0)).1))))) x1 x2 (IntKind.i64.wrap (x3 + 1)) x4 x5)))
              (u16l1 x0 x1 x2 x3 x4 x5 (ih (IntKind.i64.wrap (x0 + (IntKind.i64.wrap (((r53 ((x4.getD (Int.toNat x3) []).getD 0 0)).2) - ((r53 ((x4.getD (Int.toNat x3) []).getD 0 0)).1))))) x1 x2 (IntKind.i64.wrap (x3 + 1)) x4 x5))))))
          (cond (decide ((x0 : Int) < ((r53 ((x4.getD (Int.toNat x3) []).getD 0 0)).1)))
           (a16l1 x0 x1 x2 x3 x4 x5 (0, x0, x1, 0, 0))
           (cond (decide (((IntKind.i64.wrap (x0 + (IntKind.i64.wrap (((r53 ((x4.getD (Int.toNat x3) []).getD 0 0)).2) - ((r53 ((x4.getD (Int.toNat x3) []).getD 0 0)).1))))) : Int) > 20))
            (a16l1 x0 x1 x2 x3 x4 x5 (0, (IntKind.i64.wrap (x0 + (IntKind.i64.wrap (((r53 ((x4.getD (Int.toNat x3) []).getD 0 0)).2) - ((r53 ((x4.getD (Int.toNat x3) []).getD 0 0)).1))))), x1, 0, 0))
            (cond ((((x4.getD (Int.toNat x3) []).getD 0 0) : Int) == 4)
             (cond (((IntKind.i64.wrap (x0 + (IntKind.i64.wrap (((r53 ((x4.getD (Int.toNat x3) []).getD 0 0)).2) - ((r53 ((x4.getD (Int.toNat x3) []).getD 0 0)).1))))) : Int) != 0)
              (a16l1 x0 x1 x2 x3 x4 x5 (0, (IntKind.i64.wrap (x0 + (IntKind.i64.wrap (((r53 ((x4.getD (Int.toNat x3) []).getD 0 0)).2) - ((r53 ((x4.getD (Int.toNat x3) []).getD 0 0)).1))))), x1, 0, 0))
              (u16l1 x0 x1 x2 x3 x4 x5 (ih (IntKind.i64.wrap (x0 + (IntKind.i64.wrap (((r53 ((x4.getD (Int.toNat x3) []).getD 0 0)).2) - ((r53 ((x4.getD (Int.toNat x3) []).getD 0 0)).1))))) x1 x2 (IntKind.i64.wrap (x3 + 1)) x4 x5)))
             (u16l1 x0 x1 x2 x3 x4 x5 (ih (IntKind.i64.wrap (x0 + (IntKind.i64.wrap (((r53 ((x4.getD (Int.toNat x3) []).getD 0 0)).2) - ((r53 ((x4.getD (Int.toNat x3) []).getD 0 0)).1))))) x1 x2 (IntKind.i64.wrap (x3 + 1)) x4 x5)))))))))
      (cond ((((x4.getD (Int.toNat x3) []).getD 0 0) : Int) == 2)
       (cond (decide (((IntKind.i64.wrap ((x4.getD (Int.toNat x3) []).getD 1 0)) : Int) < 0))
        (a16l1 x0 x1 x2 x3 x4 x5 (0, x0, x1, 0, 0))
        (cond (decide (((IntKind.i64.wrap ((x4.getD (Int.toNat x3) []).getD 1 0)) : Int) ≥ 4))
         (a16l1 x0 x1 x2 x3 x4 x5 (0, x0, x1, 0, 0))
         (cond ((((x4.getD (Int.toNat x3) []).getD 0 0) : Int) != 1)
          (cond (!(r52 (Int.toNat ((x4.getD (Int.toNat x3) []).getD 2 0))))
           (a16l1 x0 x1 x2 x3 x4 x5 (0, x0, x1, 0, 0))
           (cond (decide ((x0 : Int) < ((r53 ((x4.getD (Int.toNat x3) []).getD 0 0)).1)))
            (a16l1 x0 x1 x2 x3 x4 x5 (0, x0, x1, 0, 0))
            (cond (decide (((IntKind.i64.wrap (x0 + (IntKind.i64.wrap (((r53 ((x4.getD (Int.toNat x3) []).getD 0 0)).2) - ((r53 ((x4.getD (Int.toNat x3) []).getD 0 0)).1))))) : Int) > 20))
             (a16l1 x0 x1 x2 x3 x4 x5 (0, (IntKind.i64.wrap (x0 + (IntKind.i64.wrap (((r53 ((x4.getD (Int.toNat x3) []).getD 0 0)).2) - ((r53 ((x4.getD (Int.toNat x3) []).getD 0 0)).1))))), x1, 0, 0))
             (cond ((((x4.getD (Int.toNat x3) []).getD 0 0) : Int) == 4)
              (cond (((IntKind.i64.wrap (x0 + (IntKind.i64.wrap (((r53 ((x4.getD (Int.toNat x3) []).getD 0 0)).2) - ((r53 ((x4.getD (Int.toNat x3) []).getD 0 0)).1))))) : Int) != 0)
               (a16l1 x0 x1 x2 x3 x4 x5 (0, (IntKind.i64.wrap (x0 + (IntKind.i64.wrap (((r53 ((x4.getD (Int.toNat x3) []).getD 0 0)).2) - ((r53 ((x4.getD (Int.toNat x3) []).getD 0 0)).1))))), x1, 0, 0))
               (u16l1 x0 x1 x2 x3 x4 x5 (ih (IntKind.i64.wrap (x0 + (IntKind.i64.wrap (((r53 ((x4.getD (Int.toNat x3) []).getD 0 0)).2) - ((r53 ((x4.getD (Int.toNat x3) []).getD 0 0)).1))))) x1 x2 (IntKind.i64.wrap (x3 + 1)) x4 x5)))
              (u16l1 x0 x1 x2 x3 x4 x5 (ih (IntKind.i64.wrap (x0 + (IntKind.i64.wrap (((r53 ((x4.getD (Int.toNat x3) []).getD 0 0)).2) - ((r53 ((x4.getD (Int.toNat x3) []).getD 0 0)).1))))) x1 x2 (IntKind.i64.wrap (x3 + 1)) x4 x5))))))
          (cond (decide ((x0 : Int) < ((r53 ((x4.getD (Int.toNat x3) []).getD 0 0)).1)))
           (a16l1 x0 x1 x2 x3 x4 x5 (0, x0, x1, 0, 0))
           (cond (decide (((IntKind.i64.wrap (x0 + (IntKind.i64.wrap (((r53 ((x4.getD (Int.toNat x3) []).getD 0 0)).2) - ((r53 ((x4.getD (Int.toNat x3) []).getD 0 0)).1))))) : Int) > 20))
            (a16l1 x0 x1 x2 x3 x4 x5 (0, (IntKind.i64.wrap (x0 + (IntKind.i64.wrap (((r53 ((x4.getD (Int.toNat x3) []).getD 0 0)).2) - ((r53 ((x4.getD (Int.toNat x3) []).getD 0 0)).1))))), x1, 0, 0))
            (cond ((((x4.getD (Int.toNat x3) []).getD 0 0) : Int) == 4)
             (cond (((IntKind.i64.wrap (x0 + (IntKind.i64.wrap (((r53 ((x4.getD (Int.toNat x3) []).getD 0 0)).2) - ((r53 ((x4.getD (Int.toNat x3) []).getD 0 0)).1))))) : Int) != 0)
              (a16l1 x0 x1 x2 x3 x4 x5 (0, (IntKind.i64.wrap (x0 + (IntKind.i64.wrap (((r53 ((x4.getD (Int.toNat x3) []).getD 0 0)).2) - ((r53 ((x4.getD (Int.toNat x3) []).getD 0 0)).1))))), x1, 0, 0))
              (u16l1 x0 x1 x2 x3 x4 x5 (ih (IntKind.i64.wrap (x0 + (IntKind.i64.wrap (((r53 ((x4.getD (Int.toNat x3) []).getD 0 0)).2) - ((r53 ((x4.getD (Int.toNat x3) []).getD 0 0)).1))))) x1 x2 (IntKind.i64.wrap (x3 + 1)) x4 x5)))
             (u16l1 x0 x1 x2 x3 x4 x5 (ih (IntKind.i64.wrap (x0 + (IntKind.i64.wrap (((r53 ((x4.getD (Int.toNat x3) []).getD 0 0)).2) - ((r53 ((x4.getD (Int.toNat x3) []).getD 0 0)).1))))) x1 x2 (IntKind.i64.wrap (x3 + 1)) x4 x5))))))))
       (cond ((((x4.getD (Int.toNat x3) []).getD 0 0) : Int) == 3)
        (cond (decide (((IntKind.i64.wrap ((x4.getD (Int.toNat x3) []).getD 1 0)) : Int) < 0))
         (a16l1 x0 x1 x2 x3 x4 x5 (0, x0, x1, 0, 0))
         (cond (decide (((IntKind.i64.wrap ((x4.getD (Int.toNat x3) []).getD 1 0)) : Int) ≥ x1))
          (a16l1 x0 x1 x2 x3 x4 x5 (0, x0, x1, 0, 0))
          (cond ((((x4.getD (Int.toNat x3) []).getD 0 0) : Int) != 1)
           (cond (!(r52 (Int.toNat ((x4.getD (Int.toNat x3) []).getD 2 0))))
            (a16l1 x0 x1 x2 x3 x4 x5 (0, x0, x1, 0, 0))
            (cond (decide ((x0 : Int) < ((r53 ((x4.getD (Int.toNat x3) []).getD 0 0)).1)))
             (a16l1 x0 x1 x2 x3 x4 x5 (0, x0, x1, 0, 0))
             (cond (decide (((IntKind.i64.wrap (x0 + (IntKind.i64.wrap (((r53 ((x4.getD (Int.toNat x3) []).getD 0 0)).2) - ((r53 ((x4.getD (Int.toNat x3) []).getD 0 0)).1))))) : Int) > 20))
              (a16l1 x0 x1 x2 x3 x4 x5 (0, (IntKind.i64.wrap (x0 + (IntKind.i64.wrap (((r53 ((x4.getD (Int.toNat x3) []).getD 0 0)).2) - ((r53 ((x4.getD (Int.toNat x3) []).getD 0 0)).1))))), x1, 0, 0))
              (cond ((((x4.getD (Int.toNat x3) []).getD 0 0) : Int) == 4)
               (cond (((IntKind.i64.wrap (x0 + (IntKind.i64.wrap (((r53 ((x4.getD (Int.toNat x3) []).getD 0 0)).2) - ((r53 ((x4.getD (Int.toNat x3) []).getD 0 0)).1))))) : Int) != 0)
                (a16l1 x0 x1 x2 x3 x4 x5 (0, (IntKind.i64.wrap (x0 + (IntKind.i64.wrap (((r53 ((x4.getD (Int.toNat x3) []).getD 0 0)).2) - ((r53 ((x4.getD (Int.toNat x3) []).getD 0 0)).1))))), x1, 0, 0))
                (u16l1 x0 x1 x2 x3 x4 x5 (ih (IntKind.i64.wrap (x0 + (IntKind.i64.wrap (((r53 ((x4.getD (Int.toNat x3) []).getD 0 0)).2) - ((r53 ((x4.getD (Int.toNat x3) []).getD 0 0)).1))))) x1 x2 (IntKind.i64.wrap (x3 + 1)) x4 x5)))
               (u16l1 x0 x1 x2 x3 x4 x5 (ih (IntKind.i64.wrap (x0 + (IntKind.i64.wrap (((r53 ((x4.getD (Int.toNat x3) []).getD 0 0)).2) - ((r53 ((x4.getD (Int.toNat x3) []).getD 0 0)).1))))) x1 x2 (IntKind.i64.wrap (x3 + 1)) x4 x5))))))
           (cond (decide ((x0 : Int) < ((r53 ((x4.getD (Int.toNat x3) []).getD 0 0)).1)))
            (a16l1 x0 x1 x2 x3 x4 x5 (0, x0, x1, 0, 0))
            (cond (decide (((IntKind.i64.wrap (x0 + (IntKind.i64.wrap (((r53 ((x4.getD (Int.toNat x3) []).getD 0 0)).2) - ((r53 ((x4.getD (Int.toNat x3) []).getD 0 0)).1))))) : Int) > 20))
             (a16l1 x0 x1 x2 x3 x4 x5 (0, (IntKind.i64.wrap (x0 + (IntKind.i64.wrap (((r53 ((x4.getD (Int.toNat x3) []).getD 0 0)).2) - ((r53 ((x4.getD (Int.toNat x3) []).getD 0 0)).1))))), x1, 0, 0))
             (cond ((((x4.getD (Int.toNat x3) []).getD 0 0) : Int) == 4)
              (cond (((IntKind.i64.wrap (x0 + (IntKind.i64.wrap (((r53 ((x4.getD (Int.toNat x3) []).getD 0 0)).2) - ((r53 ((x4.getD (Int.toNat x3) []).getD 0 0)).1))))) : Int) != 0)
               (a16l1 x0 x1 x2 x3 x4 x5 (0, (IntKind.i64.wrap (x0 + (IntKind.i64.wrap (((r53 ((x4.getD (Int.toNat x3) []).getD 0 0)).2) - ((r53 ((x4.getD (Int.toNat x3) []).getD 0 0)).1))))), x1, 0, 0))
               (u16l1 x0 x1 x2 x3 x4 x5 (ih (IntKind.i64.wrap (x0 + (IntKind.i64.wrap (((r53 ((x4.getD (Int.toNat x3) []).getD 0 0)).2) - ((r53 ((x4.getD (Int.toNat x3) []).getD 0 0)).1))))) x1 x2 (IntKind.i64.wrap (x3 + 1)) x4 x5)))
              (u16l1 x0 x1 x2 x3 x4 x5 (ih (IntKind.i64.wrap (x0 + (IntKind.i64.wrap (((r53 ((x4.getD (Int.toNat x3) []).getD 0 0)).2) - ((r53 ((x4.getD (Int.toNat x3) []).getD 0 0)).1))))) x1 x2 (IntKind.i64.wrap (x3 + 1)) x4 x5))))))))
        (cond ((((x4.getD (Int.toNat x3) []).getD 0 0) : Int) == 4)
         (cond (((IntKind.i64.wrap ((x4.getD (Int.toNat x3) []).getD 1 0)) : Int) != x1)
          (a16l1 x0 x1 x2 x3 x4 x5 (0, x0, x1, 0, 0))
          (cond (decide ((x1 : Int) ≥ ((x5.length : Nat) : Int)))
           (a16l1 x0 x1 x2 x3 x4 x5 (0, x0, x1, 0, 0))
           (cond ((((x4.getD (Int.toNat x3) []).getD 0 0) : Int) != 1)
            (cond (!(r52 (Int.toNat ((x4.getD (Int.toNat x3) []).getD 2 0))))
             (a16l1 x0 x1 x2 x3 x4 x5 (0, x0, (IntKind.i64.wrap (x1 + 1)), 0, 0))
             (cond (decide ((x0 : Int) < ((r53 ((x4.getD (Int.toNat x3) []).getD 0 0)).1)))
              (a16l1 x0 x1 x2 x3 x4 x5 (0, x0, (IntKind.i64.wrap (x1 + 1)), 0, 0))
              (cond (decide (((IntKind.i64.wrap (x0 + (IntKind.i64.wrap (((r53 ((x4.getD (Int.toNat x3) []).getD 0 0)).2) - ((r53 ((x4.getD (Int.toNat x3) []).getD 0 0)).1))))) : Int) > 20))
               (a16l1 x0 x1 x2 x3 x4 x5 (0, (IntKind.i64.wrap (x0 + (IntKind.i64.wrap (((r53 ((x4.getD (Int.toNat x3) []).getD 0 0)).2) - ((r53 ((x4.getD (Int.toNat x3) []).getD 0 0)).1))))), (IntKind.i64.wrap (x1 + 1)), 0, 0))
               (cond ((((x4.getD (Int.toNat x3) []).getD 0 0) : Int) == 4)
                (cond (((IntKind.i64.wrap (x0 + (IntKind.i64.wrap (((r53 ((x4.getD (Int.toNat x3) []).getD 0 0)).2) - ((r53 ((x4.getD (Int.toNat x3) []).getD 0 0)).1))))) : Int) != 0)
                 (a16l1 x0 x1 x2 x3 x4 x5 (0, (IntKind.i64.wrap (x0 + (IntKind.i64.wrap (((r53 ((x4.getD (Int.toNat x3) []).getD 0 0)).2) - ((r53 ((x4.getD (Int.toNat x3) []).getD 0 0)).1))))), (IntKind.i64.wrap (x1 + 1)), 0, 0))
                 (u16l1 x0 x1 x2 x3 x4 x5 (ih (IntKind.i64.wrap (x0 + (IntKind.i64.wrap (((r53 ((x4.getD (Int.toNat x3) []).getD 0 0)).2) - ((r53 ((x4.getD (Int.toNat x3) []).getD 0 0)).1))))) (IntKind.i64.wrap (x1 + 1)) x2 (IntKind.i64.wrap (x3 + 1)) x4 x5)))
                (cond (Nat.beq ((ih (IntKind.i64.wrap (x0 + (IntKind.i64.wrap (((r53 ((x4.getD (Int.toNat x3) []).getD 0 0)).2) - ((r53 ((x4.getD (Int.toNat x3) []).getD 0 0)).1))))) (IntKind.i64.wrap (x1 + 1)) x2 (IntKind.i64.wrap (x3 + 1)) x4 x5).1) 0)
                 (some (.ret, frameOf 161 [1, 2, 5, 6] [.pointer (some ⟨0, 0, some 0⟩), .bool false, .int .i64 ((ih (IntKind.i64.wrap (x0 + (IntKind.i64.wrap (((r53 ((x4.getD (Int.toNat x3) []).getD 0 0)).2) - ((r53 ((x4.getD (Int.toNat x3) []).getD 0 0)).1))))) (IntKind.i64.wrap (x1 + 1)) x2 (IntKind.i64.wrap (x3 + 1)) x4 x5).2.1), .int .i64 ((ih (IntKind.i64.wrap (x0 + (IntKind.i64.wrap (((r53 ((x4.getD (Int.toNat x3) []).getD 0 0)).2) - ((r53 ((x4.getD (Int.toNat x3) []).getD 0 0)).1))))) (IntKind.i64.wrap (x1 + 1)) x2 (IntKind.i64.wrap (x3 + 1)) x4 x5).2.2.1)], ⟨[⟨true, (some (.cells [wsl 2, wsl 1]))⟩, ⟨true, (some (.tab [.int .i8, .int .i16, .fl .f32] x4))⟩, ⟨true, (some (.strs x5))⟩], 3, []⟩))
                 (cond (Nat.beq ((ih (IntKind.i64.wrap (x0 + (IntKind.i64.wrap (((r53 ((x4.getD (Int.toNat x3) []).getD 0 0)).2) - ((r53 ((x4.getD (Int.toNat x3) []).getD 0 0)).1))))) (IntKind.i64.wrap (x1 + 1)) x2 (IntKind.i64.wrap (x3 + 1)) x4 x5).1) 1)
                  (some (.exit 2, frameOf 161 [1, 2, 5, 6] [.pointer (some ⟨0, 0, some 0⟩), anyV, .int .i64 ((ih (IntKind.i64.wrap (x0 + (IntKind.i64.wrap (((r53 ((x4.getD (Int.toNat x3) []).getD 0 0)).2) - ((r53 ((x4.getD (Int.toNat x3) []).getD 0 0)).1))))) (IntKind.i64.wrap (x1 + 1)) x2 (IntKind.i64.wrap (x3 + 1)) x4 x5).2.2.2.1), .int .i64 ((ih (IntKind.i64.wrap (x0 + (IntKind.i64.wrap (((r53 ((x4.getD (Int.toNat x3) []).getD 0 0)).2) - ((r53 ((x4.getD (Int.toNat x3) []).getD 0 0)).1))))) (IntKind.i64.wrap (x1 + 1)) x2 (IntKind.i64.wrap (x3 + 1)) x4 x5).2.2.2.2)], ⟨[⟨true, (some (.cells [wsl 2, wsl 1]))⟩, ⟨true, (some (.tab [.int .i8, .int .i16, .fl .f32] x4))⟩, ⟨true, (some (.strs x5))⟩], 3, []⟩))
                  none))))))
            (cond (decide ((x0 : Int) < ((r53 ((x4.getD (Int.toNat x3) []).getD 0 0)).1)))
             (a16l1 x0 x1 x2 x3 x4 x5 (0, x0, (IntKind.i64.wrap (x1 + 1)), 0, 0))
             (cond (decide (((IntKind.i64.wrap (x0 + (IntKind.i64.wrap (((r53 ((x4.getD (Int.toNat x3) []).getD 0 0)).2) - ((r53 ((x4.getD (Int.toNat x3) []).getD 0 0)).1))))) : Int) > 20))
              (a16l1 x0 x1 x2 x3 x4 x5 (0, (IntKind.i64.wrap (x0 + (IntKind.i64.wrap (((r53 ((x4.getD (Int.toNat x3) []).getD 0 0)).2) - ((r53 ((x4.getD (Int.toNat x3) []).getD 0 0)).1))))), (IntKind.i64.wrap (x1 + 1)), 0, 0))
              (cond ((((x4.getD (Int.toNat x3) []).getD 0 0) : Int) == 4)
               (cond (((IntKind.i64.wrap (x0 + (IntKind.i64.wrap (((r53 ((x4.getD (Int.toNat x3) []).getD 0 0)).2) - ((r53 ((x4.getD (Int.toNat x3) []).getD 0 0)).1))))) : Int) != 0)
                (a16l1 x0 x1 x2 x3 x4 x5 (0, (IntKind.i64.wrap (x0 + (IntKind.i64.wrap (((r53 ((x4.getD (Int.toNat x3) []).getD 0 0)).2) - ((r53 ((x4.getD (Int.toNat x3) []).getD 0 0)).1))))), (IntKind.i64.wrap (x1 + 1)), 0, 0))
                (u16l1 x0 x1 x2 x3 x4 x5 (ih (IntKind.i64.wrap (x0 + (IntKind.i64.wrap (((r53 ((x4.getD (Int.toNat x3) []).getD 0 0)).2) - ((r53 ((x4.getD (Int.toNat x3) []).getD 0 0)).1))))) (IntKind.i64.wrap (x1 + 1)) x2 (IntKind.i64.wrap (x3 + 1)) x4 x5)))
               (cond (Nat.beq ((ih (IntKind.i64.wrap (x0 + (IntKind.i64.wrap (((r53 ((x4.getD (Int.toNat x3) []).getD 0 0)).2) - ((r53 ((x4.getD (Int.toNat x3) []).getD 0 0)).1))))) (IntKind.i64.wrap (x1 + 1)) x2 (IntKind.i64.wrap (x3 + 1)) x4 x5).1) 0)
                (some (.ret, frameOf 161 [1, 2, 5, 6] [.pointer (some ⟨0, 0, some 0⟩), .bool false, .int .i64 ((ih (IntKind.i64.wrap (x0 + (IntKind.i64.wrap (((r53 ((x4.getD (Int.toNat x3) []).getD 0 0)).2) - ((r53 ((x4.getD (Int.toNat x3) []).getD 0 0)).1))))) (IntKind.i64.wrap (x1 + 1)) x2 (IntKind.i64.wrap (x3 + 1)) x4 x5).2.1), .int .i64 ((ih (IntKind.i64.wrap (x0 + (IntKind.i64.wrap (((r53 ((x4.getD (Int.toNat x3) []).getD 0 0)).2) - ((r53 ((x4.getD (Int.toNat x3) []).getD 0 0)).1))))) (IntKind.i64.wrap (x1 + 1)) x2 (IntKind.i64.wrap (x3 + 1)) x4 x5).2.2.1)], ⟨[⟨true, (some (.cells [wsl 2, wsl 1]))⟩, ⟨true, (some (.tab [.int .i8, .int .i16, .fl .f32] x4))⟩, ⟨true, (some (.strs x5))⟩], 3, []⟩))
                (cond (Nat.beq ((ih (IntKind.i64.wrap (x0 + (IntKind.i64.wrap (((r53 ((x4.getD (Int.toNat x3) []).getD 0 0)).2) - ((r53 ((x4.getD (Int.toNat x3) []).getD 0 0)).1))))) (IntKind.i64.wrap (x1 + 1)) x2 (IntKind.i64.wrap (x3 + 1)) x4 x5).1) 1)
                 (some (.exit 2, frameOf 161 [1, 2, 5, 6] [.pointer (some ⟨0, 0, some 0⟩), anyV, .int .i64 ((ih (IntKind.i64.wrap (x0 + (IntKind.i64.wrap (((r53 ((x4.getD (Int.toNat x3) []).getD 0 0)).2) - ((r53 ((x4.getD (Int.toNat x3) []).getD 0 0)).1))))) (IntKind.i64.wrap (x1 + 1)) x2 (IntKind.i64.wrap (x3 + 1)) x4 x5).2.2.2.1), .int .i64 ((ih (IntKind.i64.wrap (x0 + (IntKind.i64.wrap (((r53 ((x4.getD (Int.toNat x3) []).getD 0 0)).2) - ((r53 ((x4.getD (Int.toNat x3) []).getD 0 0)).1))))) (IntKind.i64.wrap (x1 + 1)) x2 (IntKind.i64.wrap (x3 + 1)) x4 x5).2.2.2.2)], ⟨[⟨true, (some (.cells [wsl 2, wsl 1]))⟩, ⟨true, (some (.tab [.int .i8, .int .i16, .fl .f32] x4))⟩, ⟨true, (some (.strs x5))⟩], 3, []⟩))
                 none))))))))
         (cond (((IntKind.i64.wrap ((x4.getD (Int.toNat x3) []).getD 1 0)) : Int) != 0)
          (a16l1 x0 x1 x2 x3 x4 x5 (0, x0, x1, 0, 0))
          (cond ((((x4.getD (Int.toNat x3) []).getD 0 0) : Int) != 1)
           (cond (!(r52 (Int.toNat ((x4.getD (Int.toNat x3) []).getD 2 0))))
            (a16l1 x0 x1 x2 x3 x4 x5 (0, x0, x1, 0, 0))
            (cond (decide ((x0 : Int) < ((r53 ((x4.getD (Int.toNat x3) []).getD 0 0)).1)))
             (a16l1 x0 x1 x2 x3 x4 x5 (0, x0, x1, 0, 0))
             (cond (decide (((IntKind.i64.wrap (x0 + (IntKind.i64.wrap (((r53 ((x4.getD (Int.toNat x3) []).getD 0 0)).2) - ((r53 ((x4.getD (Int.toNat x3) []).getD 0 0)).1))))) : Int) > 20))
              (a16l1 x0 x1 x2 x3 x4 x5 (0, (IntKind.i64.wrap (x0 + (IntKind.i64.wrap (((r53 ((x4.getD (Int.toNat x3) []).getD 0 0)).2) - ((r53 ((x4.getD (Int.toNat x3) []).getD 0 0)).1))))), x1, 0, 0))
              (cond ((((x4.getD (Int.toNat x3) []).getD 0 0) : Int) == 4)
               (cond (((IntKind.i64.wrap (x0 + (IntKind.i64.wrap (((r53 ((x4.getD (Int.toNat x3) []).getD 0 0)).2) - ((r53 ((x4.getD (Int.toNat x3) []).getD 0 0)).1))))) : Int) != 0)
                (some (.ret, frameOf 161 [1, 2, 5, 6] [.pointer (some ⟨0, 0, some 0⟩), .bool false, .int .i64 (IntKind.i64.wrap (x0 + (IntKind.i64.wrap (((r53 ((x4.getD (Int.toNat x3) []).getD 0 0)).2) - ((r53 ((x4.getD (Int.toNat x3) []).getD 0 0)).1))))), .int .i64 x1], ⟨[⟨true, (some (.cells [wsl 2, wsl 1]))⟩, ⟨true, (some (.tab [.int .i8, .int .i16, .fl .f32] x4))⟩, ⟨true, (some (.strs x5))⟩], 3, []⟩))
                (cond (Nat.beq ((ih (IntKind.i64.wrap (x0 + (IntKind.i64.wrap (((r53 ((x4.getD (Int.toNat x3) []).getD 0 0)).2) - ((r53 ((x4.getD (Int.toNat x3) []).getD 0 0)).1))))) x1 x2 (IntKind.i64.wrap (x3 + 1)) x4 x5).1) 0)
                 (some (.ret, frameOf 161 [1, 2, 5, 6] [.pointer (some ⟨0, 0, some 0⟩), .bool false, .int .i64 ((ih (IntKind.i64.wrap (x0 + (IntKind.i64.wrap (((r53 ((x4.getD (Int.toNat x3) []).getD 0 0)).2) - ((r53 ((x4.getD (Int.toNat x3) []).getD 0 0)).1))))) x1 x2 (IntKind.i64.wrap (x3 + 1)) x4 x5).2.1), .int .i64 ((ih (IntKind.i64.wrap (x0 + (IntKind.i64.wrap (((r53 ((x4.getD (Int.toNat x3) []).getD 0 0)).2) - ((r53 ((x4.getD (Int.toNat x3) []).getD 0 0)).1))))) x1 x2 (IntKind.i64.wrap (x3 + 1)) x4 x5).2.2.1)], ⟨[⟨true, (some (.cells [wsl 2, wsl 1]))⟩, ⟨true, (some (.tab [.int .i8, .int .i16, .fl .f32] x4))⟩, ⟨true, (some (.strs x5))⟩], 3, []⟩))
                 (cond (Nat.beq ((ih (IntKind.i64.wrap (x0 + (IntKind.i64.wrap (((r53 ((x4.getD (Int.toNat x3) []).getD 0 0)).2) - ((r53 ((x4.getD (Int.toNat x3) []).getD 0 0)).1))))) x1 x2 (IntKind.i64.wrap (x3 + 1)) x4 x5).1) 1)
                  (some (.exit 2, frameOf 161 [1, 2, 5, 6] [.pointer (some ⟨0, 0, some 0⟩), anyV, .int .i64 ((ih (IntKind.i64.wrap (x0 + (IntKind.i64.wrap (((r53 ((x4.getD (Int.toNat x3) []).getD 0 0)).2) - ((r53 ((x4.getD (Int.toNat x3) []).getD 0 0)).1))))) x1 x2 (IntKind.i64.wrap (x3 + 1)) x4 x5).2.2.2.1), .int .i64 ((ih (IntKind.i64.wrap (x0 + (IntKind.i64.wrap (((r53 ((x4.getD (Int.toNat x3) []).getD 0 0)).2) - ((r53 ((x4.getD (Int.toNat x3) []).getD 0 0)).1))))) x1 x2 (IntKind.i64.wrap (x3 + 1)) x4 x5).2.2.2.2)], ⟨[⟨true, (some (.cells [wsl 2, wsl 1]))⟩, ⟨true, (some (.tab [.int .i8, .int .i16, .fl .f32] x4))⟩, ⟨true, (some (.strs x5))⟩], 3, []⟩))
                  none)))
               (u16l1 x0 x1 x2 x3 x4 x5 (ih (IntKind.i64.wrap (x0 + (IntKind.i64.wrap (((r53 ((x4.getD (Int.toNat x3) []).getD 0 0)).2) - ((r53 ((x4.getD (Int.toNat x3) []).getD 0 0)).1))))) x1 x2 (IntKind.i64.wrap (x3 + 1)) x4 x5))))))
           (cond (decide ((x0 : Int) < ((r53 ((x4.getD (Int.toNat x3) []).getD 0 0)).1)))
            (a16l1 x0 x1 x2 x3 x4 x5 (0, x0, x1, 0, 0))
            (cond (decide (((IntKind.i64.wrap (x0 + (IntKind.i64.wrap (((r53 ((x4.getD (Int.toNat x3) []).getD 0 0)).2) - ((r53 ((x4.getD (Int.toNat x3) []).getD 0 0)).1))))) : Int) > 20))
             (a16l1 x0 x1 x2 x3 x4 x5 (0, (IntKind.i64.wrap (x0 + (IntKind.i64.wrap (((r53 ((x4.getD (Int.toNat x3) []).getD 0 0)).2) - ((r53 ((x4.getD (Int.toNat x3) []).getD 0 0)).1))))), x1, 0, 0))
             (cond ((((x4.getD (Int.toNat x3) []).getD 0 0) : Int) == 4)
              (cond (((IntKind.i64.wrap (x0 + (IntKind.i64.wrap (((r53 ((x4.getD (Int.toNat x3) []).getD 0 0)).2) - ((r53 ((x4.getD (Int.toNat x3) []).getD 0 0)).1))))) : Int) != 0)
               (some (.ret, frameOf 161 [1, 2, 5, 6] [.pointer (some ⟨0, 0, some 0⟩), .bool false, .int .i64 (IntKind.i64.wrap (x0 + (IntKind.i64.wrap (((r53 ((x4.getD (Int.toNat x3) []).getD 0 0)).2) - ((r53 ((x4.getD (Int.toNat x3) []).getD 0 0)).1))))), .int .i64 x1], ⟨[⟨true, (some (.cells [wsl 2, wsl 1]))⟩, ⟨true, (some (.tab [.int .i8, .int .i16, .fl .f32] x4))⟩, ⟨true, (some (.strs x5))⟩], 3, []⟩))
               (cond (Nat.beq ((ih (IntKind.i64.wrap (x0 + (IntKind.i64.wrap (((r53 ((x4.getD (Int.toNat x3) []).getD 0 0)).2) - ((r53 ((x4.getD (Int.toNat x3) []).getD 0 0)).1))))) x1 x2 (IntKind.i64.wrap (x3 + 1)) x4 x5).1) 0)
                (some (.ret, frameOf 161 [1, 2, 5, 6] [.pointer (some ⟨0, 0, some 0⟩), .bool false, .int .i64 ((ih (IntKind.i64.wrap (x0 + (IntKind.i64.wrap (((r53 ((x4.getD (Int.toNat x3) []).getD 0 0)).2) - ((r53 ((x4.getD (Int.toNat x3) []).getD 0 0)).1))))) x1 x2 (IntKind.i64.wrap (x3 + 1)) x4 x5).2.1), .int .i64 ((ih (IntKind.i64.wrap (x0 + (IntKind.i64.wrap (((r53 ((x4.getD (Int.toNat x3) []).getD 0 0)).2) - ((r53 ((x4.getD (Int.toNat x3) []).getD 0 0)).1))))) x1 x2 (IntKind.i64.wrap (x3 + 1)) x4 x5).2.2.1)], ⟨[⟨true, (some (.cells [wsl 2, wsl 1]))⟩, ⟨true, (some (.tab [.int .i8, .int .i16, .fl .f32] x4))⟩, ⟨true, (some (.strs x5))⟩], 3, []⟩))
                (cond (Nat.beq ((ih (IntKind.i64.wrap (x0 + (IntKind.i64.wrap (((r53 ((x4.getD (Int.toNat x3) []).getD 0 0)).2) - ((r53 ((x4.getD (Int.toNat x3) []).getD 0 0)).1))))) x1 x2 (IntKind.i64.wrap (x3 + 1)) x4 x5).1) 1)
                 (some (.exit 2, frameOf 161 [1, 2, 5, 6] [.pointer (some ⟨0, 0, some 0⟩), anyV, .int .i64 ((ih (IntKind.i64.wrap (x0 + (IntKind.i64.wrap (((r53 ((x4.getD (Int.toNat x3) []).getD 0 0)).2) - ((r53 ((x4.getD (Int.toNat x3) []).getD 0 0)).1))))) x1 x2 (IntKind.i64.wrap (x3 + 1)) x4 x5).2.2.2.1), .int .i64 ((ih (IntKind.i64.wrap (x0 + (IntKind.i64.wrap (((r53 ((x4.getD (Int.toNat x3) []).getD 0 0)).2) - ((r53 ((x4.getD (Int.toNat x3) []).getD 0 0)).1))))) x1 x2 (IntKind.i64.wrap (x3 + 1)) x4 x5).2.2.2.2)], ⟨[⟨true, (some (.cells [wsl 2, wsl 1]))⟩, ⟨true, (some (.tab [.int .i8, .int .i16, .fl .f32] x4))⟩, ⟨true, (some (.strs x5))⟩], 3, []⟩))
                 none)))
              (u16l1 x0 x1 x2 x3 x4 x5 (ih (IntKind.i64.wrap (x0 + (IntKind.i64.wrap (((r53 ((x4.getD (Int.toNat x3) []).getD 0 0)).2) - ((r53 ((x4.getD (Int.toNat x3) []).getD 0 0)).1))))) x1 x2 (IntKind.i64.wrap (x3 + 1)) x4 x5)))))))))))))
   none)
  none)
 (a16l1 x0 x1 x2 x3 x4 x5 (1, 0, 0, x0, x1)))
set_option maxRecDepth 100000 in
set_option maxHeartbeats 4000000 in
theorem e16l1 (m : Nat) (x0 x1 x2 x3 : Int) (x4 : List (List Int)) (x5 : List ByteArray) : evC Try.prog ext T31 L16_1 200 (loopN Try.f16 1) (loopTail ([1, 5, 6, 43, 44, 45], []) [1, 2, 5, 6] [] (sumK 161 [1, 5, 6, 43, 44, 45] [1, 2, 5, 6] (q16l1 m))) (frameOf 161 [1, 5, 6, 43, 44, 45] [.pointer (some ⟨0, 0, some 0⟩), .int .i64 x0, .int .i64 x1, wsl 1, .int .i64 x2, .int .i64 x3]) ⟨[⟨true, (some (.cells [wsl 2, wsl 1]))⟩, ⟨true, (some (.tab [.int .i8, .int .i16, .fl .f32] x4))⟩, ⟨true, (some (.strs x5))⟩], 3, []⟩ = firstT ([((Nat.beq ((r16l1 (m + 1) x0 x1 x2 x3 x4 x5).1) 0), .ret, [.pointer (some ⟨0, 0, some 0⟩), .bool false, .int .i64 ((r16l1 (m + 1) x0 x1 x2 x3 x4 x5).2.1), .int .i64 ((r16l1 (m + 1) x0 x1 x2 x3 x4 x5).2.2.1)], ⟨[⟨true, (some (.cells [wsl 2, wsl 1]))⟩, ⟨true, (some (.tab [.int .i8, .int .i16, .fl .f32] x4))⟩, ⟨true, (some (.strs x5))⟩], 3, []⟩), ((Nat.beq ((r16l1 (m + 1) x0 x1 x2 x3 x4 x5).1) 1), .exit 2, [.pointer (some ⟨0, 0, some 0⟩), anyV, .int .i64 ((r16l1 (m + 1) x0 x1 x2 x3 x4 x5).2.2.2.1), .int .i64 ((r16l1 (m + 1) x0 x1 x2 x3 x4 x5).2.2.2.2)], ⟨[⟨true, (some (.cells [wsl 2, wsl 1]))⟩, ⟨true, (some (.tab [.int .i8, .int .i16, .fl .f32] x4))⟩, ⟨true, (some (.strs x5))⟩], 3, []⟩)].map fun (b, x) => (b, (x.1, frameOf 161 [1, 2, 5, 6] x.2.1, x.2.2))) :=
 (show evC Try.prog ext T31 L16_1 200 (loopN Try.f16 1) (loopTail ([1, 5, 6, 43, 44, 45], []) [1, 2, 5, 6] [] (sumK 161 [1, 5, 6, 43, 44, 45] [1, 2, 5, 6] (q16l1 m))) (frameOf 161 [1, 5, 6, 43, 44, 45] [.pointer (some ⟨0, 0, some 0⟩), .int .i64 x0, .int .i64 x1, wsl 1, .int .i64 x2, .int .i64 x3]) ⟨[⟨true, (some (.cells [wsl 2, wsl 1]))⟩, ⟨true, (some (.tab [.int .i8, .int .i16, .fl .f32] x4))⟩, ⟨true, (some (.strs x5))⟩], 3, []⟩ = w16l1 (r16l1 m) x0 x1 x2 x3 x4 x5 from by kernel_rfl).trans
 (show w16l1 (r16l1 m) x0 x1 x2 x3 x4 x5 = a16l1 x0 x1 x2 x3 x4 x5 (r16l1 (m + 1) x0 x1 x2 x3 x4 x5) from by unfold w16l1; show _ = a16l1 x0 x1 x2 x3 x4 x5 (b16l1 (r16l1 m) x0 x1 x2 x3 x4 x5); unfold b16l1; exact (cond_both (a16l1 x0 x1 x2 x3 x4 x5) _ (fun h0 => (cond_both (a16l1 x0 x1 x2 x3 x4 x5) _ (fun h1 => (cond_t (ev_and2 h1) (cond_both (a16l1 x0 x1 x2 x3 x4 x5) _ (fun h2 => rfl) (fun h2 => (cond_both (a16l1 x0 x1 x2 x3 x4 x5) _ (fun h3 => rfl) (fun h3 => (cond_both (a16l1 x0 x1 x2 x3 x4 x5) _ (fun h4 => (cond_both (a16l1 x0 x1 x2 x3 x4 x5) _ (fun h5 => rfl) (fun h5 => (cond_both (a16l1 x0 x1 x2 x3 x4 x5) _ (fun h6 => rfl) (fun h6 => (cond_both (a16l1 x0 x1 x2 x3 x4 x5) _ (fun h7 => (cond_both (a16l1 x0 x1 x2 x3 x4 x5) _ (fun h8 => rfl) (fun h8 => (cond_both (a16l1 x0 x1 x2 x3 x4 x5) _ (fun h9 => (cond_f (ev_not0 (ev_notf h8)) (cond_app (a16l1 x0 x1 x2 x3 x4 x5) _ rfl (cond_app (a16l1 x0 x1 x2 x3 x4 x5) _ rfl (cond_app (a16l1 x0 x1 x2 x3 x4 x5) _ (cond_app (a16l1 x0 x1 x2 x3 x4 x5) _ rfl (v16l1 x0 x1 x2 x3 x4 x5 ((r16l1 m) (IntKind.i64.wrap (x0 + (IntKind.i64.wrap (((r53 ((x4.getD (Int.toNat x3) []).getD 0 0)).2) - ((r53 ((x4.getD (Int.toNat x3) []).getD 0 0)).1))))) x1 x2 (IntKind.i64.wrap (x3 + 1)) x4 x5))) (v16l1 x0 x1 x2 x3 x4 x5 ((r16l1 m) (IntKind.i64.wrap (x0 + (IntKind.i64.wrap (((r53 ((x4.getD (Int.toNat x3) []).getD 0 0)).2) - ((r53 ((x4.getD (Int.toNat x3) []).getD 0 0)).1))))) x1 x2 (IntKind.i64.wrap (x3 + 1)) x4 x5))))))) (fun h9 => (cond_app (a16l1 x0 x1 x2 x3 x4 x5) _ rfl (cond_app (a16l1 x0 x1 x2 x3 x4 x5) _ rfl (cond_app (a16l1 x0 x1 x2 x3 x4 x5) _ (cond_app (a16l1 x0 x1 x2 x3 x4 x5) _ rfl (v16l1 x0 x1 x2 x3 x4 x5 ((r16l1 m) (IntKind.i64.wrap (x0 + (IntKind.i64.wrap (((r53 ((x4.getD (Int.toNat x3) []).getD 0 0)).2) - ((r53 ((x4.getD (Int.toNat x3) []).getD 0 0)).1))))) x1 x2 (IntKind.i64.wrap (x3 + 1)) x4 x5))) (v16l1 x0 x1 x2 x3 x4 x5 ((r16l1 m) (IntKind.i64.wrap (x0 + (IntKind.i64.wrap (((r53 ((x4.getD (Int.toNat x3) []).getD 0 0)).2) - ((r53 ((x4.getD (Int.toNat x3) []).getD 0 0)).1))))) x1 x2 (IntKind.i64.wrap (x3 + 1)) x4 x5)))))))))) (fun h7 => (cond_app (a16l1 x0 x1 x2 x3 x4 x5) _ (cond_app (a16l1 x0 x1 x2 x3 x4 x5) _ rfl (cond_app (a16l1 x0 x1 x2 x3 x4 x5) _ rfl (cond_app (a16l1 x0 x1 x2 x3 x4 x5) _ rfl (cond_app (a16l1 x0 x1 x2 x3 x4 x5) _ (cond_app (a16l1 x0 x1 x2 x3 x4 x5) _ rfl (v16l1 x0 x1 x2 x3 x4 x5 ((r16l1 m) (IntKind.i64.wrap (x0 + (IntKind.i64.wrap (((r53 ((x4.getD (Int.toNat x3) []).getD 0 0)).2) - ((r53 ((x4.getD (Int.toNat x3) []).getD 0 0)).1))))) x1 x2 (IntKind.i64.wrap (x3 + 1)) x4 x5))) (v16l1 x0 x1 x2 x3 x4 x5 ((r16l1 m) (IntKind.i64.wrap (x0 + (IntKind.i64.wrap (((r53 ((x4.getD (Int.toNat x3) []).getD 0 0)).2) - ((r53 ((x4.getD (Int.toNat x3) []).getD 0 0)).1))))) x1 x2 (IntKind.i64.wrap (x3 + 1)) x4 x5)))))) (cond_app (a16l1 x0 x1 x2 x3 x4 x5) _ rfl (cond_app (a16l1 x0 x1 x2 x3 x4 x5) _ rfl (cond_app (a16l1 x0 x1 x2 x3 x4 x5) _ (cond_app (a16l1 x0 x1 x2 x3 x4 x5) _ rfl (v16l1 x0 x1 x2 x3 x4 x5 ((r16l1 m) (IntKind.i64.wrap (x0 + (IntKind.i64.wrap (((r53 ((x4.getD (Int.toNat x3) []).getD 0 0)).2) - ((r53 ((x4.getD (Int.toNat x3) []).getD 0 0)).1))))) x1 x2 (IntKind.i64.wrap (x3 + 1)) x4 x5))) (v16l1 x0 x1 x2 x3 x4 x5 ((r16l1 m) (IntKind.i64.wrap (x0 + (IntKind.i64.wrap (((r53 ((x4.getD (Int.toNat x3) []).getD 0 0)).2) - ((r53 ((x4.getD (Int.toNat x3) []).getD 0 0)).1))))) x1 x2 (IntKind.i64.wrap (x3 + 1)) x4 x5))))))))))))) (fun h4 => (cond_both (a16l1 x0 x1 x2 x3 x4 x5) _ (fun h5 => (cond_app (a16l1 x0 x1 x2 x3 x4 x5) _ rfl (cond_app (a16l1 x0 x1 x2 x3 x4 x5) _ rfl (cond_app (a16l1 x0 x1 x2 x3 x4 x5) _ (cond_app (a16l1 x0 x1 x2 x3 x4 x5) _ rfl (cond_app (a16l1 x0 x1 x2 x3 x4 x5) _ rfl (cond_app (a16l1 x0 x1 x2 x3 x4 x5) _ rfl (cond_app (a16l1 x0 x1 x2 x3 x4 x5) _ (cond_app (a16l1 x0 x1 x2 x3 x4 x5) _ rfl (v16l1 x0 x1 x2 x3 x4 x5 ((r16l1 m) (IntKind.i64.wrap (x0 + (IntKind.i64.wrap (((r53 ((x4.getD (Int.toNat x3) []).getD 0 0)).2) - ((r53 ((x4.getD (Int.toNat x3) []).getD 0 0)).1))))) x1 x2 (IntKind.i64.wrap (x3 + 1)) x4 x5))) (v16l1 x0 x1 x2 x3 x4 x5 ((r16l1 m) (IntKind.i64.wrap (x0 + (IntKind.i64.wrap (((r53 ((x4.getD (Int.toNat x3) []).getD 0 0)).2) - ((r53 ((x4.getD (Int.toNat x3) []).getD 0 0)).1))))) x1 x2 (IntKind.i64.wrap (x3 + 1)) x4 x5)))))) (cond_app (a16l1 x0 x1 x2 x3 x4 x5) _ rfl (cond_app (a16l1 x0 x1 x2 x3 x4 x5) _ rfl (cond_app (a16l1 x0 x1 x2 x3 x4 x5) _ (cond_app (a16l1 x0 x1 x2 x3 x4 x5) _ rfl (v16l1 x0 x1 x2 x3 x4 x5 ((r16l1 m) (IntKind.i64.wrap (x0 + (IntKind.i64.wrap (((r53 ((x4.getD (Int.toNat x3) []).getD 0 0)).2) - ((r53 ((x4.getD (Int.toNat x3) []).getD 0 0)).1))))) x1 x2 (IntKind.i64.wrap (x3 + 1)) x4 x5))) (v16l1 x0 x1 x2 x3 x4 x5 ((r16l1 m) (IntKind.i64.wrap (x0 + (IntKind.i64.wrap (((r53 ((x4.getD (Int.toNat x3) []).getD 0 0)).2) - ((r53 ((x4.getD (Int.toNat x3) []).getD 0 0)).1))))) x1 x2 (IntKind.i64.wrap (x3 + 1)) x4 x5))))))))) (fun h5 => (cond_both (a16l1 x0 x1 x2 x3 x4 x5) _ (fun h6 => (cond_app (a16l1 x0 x1 x2 x3 x4 x5) _ rfl (cond_app (a16l1 x0 x1 x2 x3 x4 x5) _ rfl (cond_app (a16l1 x0 x1 x2 x3 x4 x5) _ (cond_app (a16l1 x0 x1 x2 x3 x4 x5) _ rfl (cond_app (a16l1 x0 x1 x2 x3 x4 x5) _ rfl (cond_app (a16l1 x0 x1 x2 x3 x4 x5) _ rfl (cond_app (a16l1 x0 x1 x2 x3 x4 x5) _ (cond_app (a16l1 x0 x1 x2 x3 x4 x5) _ rfl (v16l1 x0 x1 x2 x3 x4 x5 ((r16l1 m) (IntKind.i64.wrap (x0 + (IntKind.i64.wrap (((r53 ((x4.getD (Int.toNat x3) []).getD 0 0)).2) - ((r53 ((x4.getD (Int.toNat x3) []).getD 0 0)).1))))) x1 x2 (IntKind.i64.wrap (x3 + 1)) x4 x5))) (v16l1 x0 x1 x2 x3 x4 x5 ((r16l1 m) (IntKind.i64.wrap (x0 + (IntKind.i64.wrap (((r53 ((x4.getD (Int.toNat x3) []).getD 0 0)).2) - ((r53 ((x4.getD (Int.toNat x3) []).getD 0 0)).1))))) x1 x2 (IntKind.i64.wrap (x3 + 1)) x4 x5)))))) (cond_app (a16l1 x0 x1 x2 x3 x4 x5) _ rfl (cond_app (a16l1 x0 x1 x2 x3 x4 x5) _ rfl (cond_app (a16l1 x0 x1 x2 x3 x4 x5) _ (cond_app (a16l1 x0 x1 x2 x3 x4 x5) _ rfl (v16l1 x0 x1 x2 x3 x4 x5 ((r16l1 m) (IntKind.i64.wrap (x0 + (IntKind.i64.wrap (((r53 ((x4.getD (Int.toNat x3) []).getD 0 0)).2) - ((r53 ((x4.getD (Int.toNat x3) []).getD 0 0)).1))))) x1 x2 (IntKind.i64.wrap (x3 + 1)) x4 x5))) (v16l1 x0 x1 x2 x3 x4 x5 ((r16l1 m) (IntKind.i64.wrap (x0 + (IntKind.i64.wrap (((r53 ((x4.getD (Int.toNat x3) []).getD 0 0)).2) - ((r53 ((x4.getD (Int.toNat x3) []).getD 0 0)).1))))) x1 x2 (IntKind.i64.wrap (x3 + 1)) x4 x5))))))))) (fun h6 => (cond_both (a16l1 x0 x1 x2 x3 x4 x5) _ (fun h7 => (cond_both (a16l1 x0 x1 x2 x3 x4 x5) _ (fun h8 => rfl) (fun h8 => (cond_both (a16l1 x0 x1 x2 x3 x4 x5) _ (fun h9 => rfl) (fun h9 => (cond_both (a16l1 x0 x1 x2 x3 x4 x5) _ (fun h10 => (cond_both (a16l1 x0 x1 x2 x3 x4 x5) _ (fun h11 => rfl) (fun h11 => (cond_both (a16l1 x0 x1 x2 x3 x4 x5) _ (fun h12 => rfl) (fun h12 => (cond_both (a16l1 x0 x1 x2 x3 x4 x5) _ (fun h13 => rfl) (fun h13 => (cond_t h7 (cond_app (a16l1 x0 x1 x2 x3 x4 x5) _ rfl (v16l1 x0 x1 x2 x3 x4 x5 ((r16l1 m) (IntKind.i64.wrap (x0 + (IntKind.i64.wrap (((r53 ((x4.getD (Int.toNat x3) []).getD 0 0)).2) - ((r53 ((x4.getD (Int.toNat x3) []).getD 0 0)).1))))) (IntKind.i64.wrap (x1 + 1)) x2 (IntKind.i64.wrap (x3 + 1)) x4 x5))))))))))) (fun h10 => (cond_both (a16l1 x0 x1 x2 x3 x4 x5) _ (fun h11 => rfl) (fun h11 => (cond_both (a16l1 x0 x1 x2 x3 x4 x5) _ (fun h12 => rfl) (fun h12 => (cond_t h7 (cond_app (a16l1 x0 x1 x2 x3 x4 x5) _ rfl (v16l1 x0 x1 x2 x3 x4 x5 ((r16l1 m) (IntKind.i64.wrap (x0 + (IntKind.i64.wrap (((r53 ((x4.getD (Int.toNat x3) []).getD 0 0)).2) - ((r53 ((x4.getD (Int.toNat x3) []).getD 0 0)).1))))) (IntKind.i64.wrap (x1 + 1)) x2 (IntKind.i64.wrap (x3 + 1)) x4 x5))))))))))))))) (fun h7 => (cond_both (a16l1 x0 x1 x2 x3 x4 x5) _ (fun h8 => rfl) (fun h8 => (cond_both (a16l1 x0 x1 x2 x3 x4 x5) _ (fun h9 => (cond_both (a16l1 x0 x1 x2 x3 x4 x5) _ (fun h10 => rfl) (fun h10 => (cond_both (a16l1 x0 x1 x2 x3 x4 x5) _ (fun h11 => rfl) (fun h11 => (cond_both (a16l1 x0 x1 x2 x3 x4 x5) _ (fun h12 => rfl) (fun h12 => (cond_f h7 (v16l1 x0 x1 x2 x3 x4 x5 ((r16l1 m) (IntKind.i64.wrap (x0 + (IntKind.i64.wrap (((r53 ((x4.getD (Int.toNat x3) []).getD 0 0)).2) - ((r53 ((x4.getD (Int.toNat x3) []).getD 0 0)).1))))) x1 x2 (IntKind.i64.wrap (x3 + 1)) x4 x5)))))))))) (fun h9 => (cond_both (a16l1 x0 x1 x2 x3 x4 x5) _ (fun h10 => rfl) (fun h10 => (cond_both (a16l1 x0 x1 x2 x3 x4 x5) _ (fun h11 => rfl) (fun h11 => (cond_f h7 (v16l1 x0 x1 x2 x3 x4 x5 ((r16l1 m) (IntKind.i64.wrap (x0 + (IntKind.i64.wrap (((r53 ((x4.getD (Int.toNat x3) []).getD 0 0)).2) - ((r53 ((x4.getD (Int.toNat x3) []).getD 0 0)).1))))) x1 x2 (IntKind.i64.wrap (x3 + 1)) x4 x5))))))))))))))))))))))))) (fun h1 => rfl))) (fun h0 => rfl)))
set_option maxRecDepth 100000 in
set_option maxHeartbeats 4000000 in
theorem qm16l1 : ∀ m, SumKOk Try.prog (loopN Try.f16 1) 161 [1, 5, 6, 43, 44, 45] [1, 2, 5, 6] (q16l1 m) := by
  intro m
  induction m with
  | zero =>
    intro vals s x h1 h2 h3
    unfold q16l1 at h3; split at h3
    · rename_i h; split at h3
      · rename_i hc; obtain ⟨rfl, rfl, rfl, rfl, rfl, rfl⟩ := hc; exact absurd h3 (by simp [r16l1, firstT, Nat.beq])
      · exact noQ_ok _ _ _ h1 h2 h3
    · exact noQ_ok _ _ _ h1 h2 h3
  | succ m ih =>
    intro vals s x h1 h2 h3
    unfold q16l1 at h3; split at h3
    · rename_i h; split at h3
      · rename_i hc; obtain ⟨rfl, rfl, rfl, rfl, rfl, rfl⟩ := hc; exact sum_step ok31 extOk mixed (lok16_1.inner (by kernel_rfl)) ih h1 h2 h (e16l1 m _ _ _ _ _ _) rfl h3
      · exact noQ_ok _ _ _ h1 h2 h3
    · exact noQ_ok _ _ _ h1 h2 h3
noncomputable def Q16l1 : SumK := fun vals s => q16l1 (fuelOf vals s.h) vals s
theorem qok16l1 : SumKOk Try.prog (loopN Try.f16 1) 161 [1, 5, 6, 43, 44, 45] [1, 2, 5, 6] Q16l1 := fuel_ok qm16l1 fuelOf
noncomputable def L16_2 : LoopT := addL L16_1 12 ([1, 5, 6, 43, 44, 45], []) (sumK 161 [1, 5, 6, 43, 44, 45] [1, 2, 5, 6] Q16l1)
theorem lok16_2 : LfOkF Try.prog L16_2 Try.f16 := lfOkF_add lok16_1 qok16l1 (by kernel_rfl) (by kernel_rfl) (by kernel_rfl)

/-- impl.ValidProgram -/
noncomputable def r16 (x0 : List ByteArray) (x1 : List (List Int)) : Nat × Bool :=
 cond (decide ((((x0.length : Nat) : Int) : Int) > 12))
  (0, false)
  (cond (decide ((((x1.length : Nat) : Int) : Int) > 300))
   (0, false)
   (cond (Nat.beq (r16l0 (1000 + x1.length + x0.length) ((x0.length : Nat) : Int) 0 x0 x1) 0)
    (0, false)
    (cond (Nat.beq (r16l0 (1000 + x1.length + x0.length) ((x0.length : Nat) : Int) 0 x0 x1) 1)
     (cond (Nat.beq ((r16l1 (1000 + x0.length + x1.length) 0 0 ((x1.length : Nat) : Int) 0 x1 x0).1) 0)
      (0, false)
      (cond (Nat.beq ((r16l1 (1000 + x0.length + x1.length) 0 0 ((x1.length : Nat) : Int) 0 x1 x0).1) 1)
       (cond ((((r16l1 (1000 + x0.length + x1.length) 0 0 ((x1.length : Nat) : Int) 0 x1 x0).2.2.2.1) : Int) == 0)
        (0, ((((r16l1 (1000 + x0.length + x1.length) 0 0 ((x1.length : Nat) : Int) 0 x1 x0).2.2.2.2) : Int) == ((x0.length : Nat) : Int)))
        (0, false))
       (1, false)))
     (1, false))))
noncomputable def a16 (x0 : List ByteArray) (x1 : List (List Int)) (p : Nat × Bool) : Res := firstT [((Nat.beq (p.1) 0), .bool (p.2), ⟨[⟨true, (some (.strs x0))⟩, ⟨true, (some (.tab [.int .i8, .int .i16, .fl .f32] x1))⟩], 2, []⟩)]
noncomputable def w16 (x0 : List ByteArray) (x1 : List (List Int)) : Res :=
 (cond (decide ((((x0.length : Nat) : Int) : Int) > 12))
 (a16 x0 x1 (0, false))
 (cond (decide ((((x1.length : Nat) : Int) : Int) > 300))
  (a16 x0 x1 (0, false))
  (cond (Nat.beq (r16l0 (1000 + x1.length + x0.length) ((x0.length : Nat) : Int) 0 x0 x1) 0)
   (a16 x0 x1 (0, false))
   (cond (Nat.beq (r16l0 (1000 + x1.length + x0.length) ((x0.length : Nat) : Int) 0 x0 x1) 1)
    (cond (Nat.beq ((r16l1 (1000 + x0.length + x1.length) 0 0 ((x1.length : Nat) : Int) 0 x1 x0).1) 0)
     (a16 x0 x1 (0, false))
     (cond (Nat.beq ((r16l1 (1000 + x0.length + x1.length) 0 0 ((x1.length : Nat) : Int) 0 x1 x0).1) 1)
      (cond ((((r16l1 (1000 + x0.length + x1.length) 0 0 ((x1.length : Nat) : Int) 0 x1 x0).2.2.2.1) : Int) == 0)
       (a16 x0 x1 (0, ((((r16l1 (1000 + x0.length + x1.length) 0 0 ((x1.length : Nat) : Int) 0 x1 x0).2.2.2.2) : Int) == ((x0.length : Nat) : Int))))
       (a16 x0 x1 (0, false)))
      none))
    none))))
set_option maxRecDepth 100000 in
set_option maxHeartbeats 4000000 in
theorem e16 (x0 : List ByteArray) (x1 : List (List Int)) : evFn Try.prog ext T31 L16_2 200 Try.f16 [.agg #[wsl 0, wsl 1]] ⟨[⟨true, (some (.strs x0))⟩, ⟨true, (some (.tab [.int .i8, .int .i16, .fl .f32] x1))⟩], 2, []⟩ = firstT [((Nat.beq ((r16 x0 x1).1) 0), .bool ((r16 x0 x1).2), ⟨[⟨true, (some (.strs x0))⟩, ⟨true, (some (.tab [.int .i8, .int .i16, .fl .f32] x1))⟩], 2, []⟩)] :=
 (show evFn Try.prog ext T31 L16_2 200 Try.f16 [.agg #[wsl 0, wsl 1]] ⟨[⟨true, (some (.strs x0))⟩, ⟨true, (some (.tab [.int .i8, .int .i16, .fl .f32] x1))⟩], 2, []⟩ = w16 x0 x1 from by kernel_rfl).trans
 (show w16 x0 x1 = a16 x0 x1 (r16 x0 x1) from by unfold w16 r16; exact (cond_app (a16 x0 x1) _ rfl (cond_app (a16 x0 x1) _ rfl (cond_app (a16 x0 x1) _ rfl (cond_app (a16 x0 x1) _ (cond_app (a16 x0 x1) _ rfl (cond_app (a16 x0 x1) _ (cond_app (a16 x0 x1) _ rfl rfl) rfl)) rfl)))))
noncomputable def s16 (args : List Value) (s : St) : List (Bool × Value × St) :=
 match args, s.h with
 | [.agg ⟨[.iface f0 .nilIface, .iface f1 .nilIface]⟩], [⟨true, some (.strs x0)⟩, ⟨true, some (.tab [.int .i8, .int .i16, .fl .f32] x1)⟩] => if f0 = 0 ∧ f1 = 1 then [((Nat.beq ((r16 x0 x1).1) 0), .bool ((r16 x0 x1).2), ⟨[⟨true, (some (.strs x0))⟩, ⟨true, (some (.tab [.int .i8, .int .i16, .fl .f32] x1))⟩], 2, []⟩)] else T31 16 args s
 | _, _ => T31 16 args s
noncomputable def T32 : CallF := addF T31 16 s16
set_option maxRecDepth 100000 in
set_option maxHeartbeats 4000000 in
theorem ok32 : CfOk Try.prog T32 := by
  refine cfOk_add ok31 fun args s r s' h1 h2 h3 => ?_
  unfold s16 at h3; split at h3
  · rename_i h; split at h3
    · rename_i hc; obtain ⟨rfl, rfl⟩ := hc; exact callOk ok31 Try.func16 h1 h2 h lok16_2.body (e16 _ _) rfl h3
    · exact ok31 _ _ _ _ _ h1 h2 h3
  · exact ok31 _ _ _ _ _ h1 h2 h3

/-- impl.runNumbers$1 -/
noncomputable def r83 (x0 : Nat) : Unit :=
 ()
noncomputable def a83 (x0 : Nat) (p : Unit) : Res := firstT [(true, .float .f32 x0, st0)]
noncomputable def w83 (x0 : Nat) : Res :=
 (a83 x0 ())
set_option maxRecDepth 100000 in
set_option maxHeartbeats 4000000 in
theorem e83 (x0 : Nat) : evFn Try.prog ext T32 noL 200 Try.f83 [.float .f32 x0] st0 = firstT [(true, .float .f32 x0, st0)] :=
 (show evFn Try.prog ext T32 noL 200 Try.f83 [.float .f32 x0] st0 = w83 x0 from by kernel_rfl).trans
 (show w83 x0 = a83 x0 (r83 x0) from by unfold w83 r83; exact rfl)
noncomputable def s83 (args : List Value) (s : St) : List (Bool × Value × St) :=
 match args, s.h with
 | [.float .f32 x0], [] => [(true, .float .f32 x0, st0)]
 | _, _ => T32 83 args s
noncomputable def T33 : CallF := addF T32 83 s83
set_option maxRecDepth 100000 in
set_option maxHeartbeats 4000000 in
theorem ok33 : CfOk Try.prog T33 := by
  refine cfOk_add ok32 fun args s r s' h1 h2 h3 => ?_
  unfold s83 at h3; split at h3
  · rename_i h; exact callOk ok32 Try.func83 h1 h2 h (lfOkF_no _ _).body (e83 _) rfl h3
  · exact ok32 _ _ _ _ _ h1 h2 h3

/-- impl.lesser -/
noncomputable def r95 (x0 x1 : Nat) : Nat :=
 cond (flt .f32 x1 x0)
  (x1)
  (x0)
noncomputable def a95 (x0 x1 : Nat) (p : Nat) : Res := firstT [(true, .float .f32 p, st0)]
noncomputable def w95 (x0 x1 : Nat) : Res :=
 (cond (flt .f32 x1 x0)
 (a95 x0 x1 (x1))
 (a95 x0 x1 (x0)))
set_option maxRecDepth 100000 in
set_option maxHeartbeats 4000000 in
theorem e95 (x0 x1 : Nat) : evFn Try.prog ext T33 noL 200 Try.f95 [.float .f32 x0, .float .f32 x1] st0 = firstT [(true, .float .f32 (r95 x0 x1), st0)] :=
 (show evFn Try.prog ext T33 noL 200 Try.f95 [.float .f32 x0, .float .f32 x1] st0 = w95 x0 x1 from by kernel_rfl).trans
 (show w95 x0 x1 = a95 x0 x1 (r95 x0 x1) from by unfold w95 r95; exact (cond_app (a95 x0 x1) _ rfl rfl))
noncomputable def s95 (args : List Value) (s : St) : List (Bool × Value × St) :=
 match args, s.h with
 | [.float .f32 x0, .float .f32 x1], [] => [(true, .float .f32 (r95 x0 x1), st0)]
 | _, _ => T33 95 args s
noncomputable def T34 : CallF := addF T33 95 s95
set_option maxRecDepth 100000 in
set_option maxHeartbeats 4000000 in
theorem ok34 : CfOk Try.prog T34 := by
  refine cfOk_add ok33 fun args s r s' h1 h2 h3 => ?_
  unfold s95 at h3; split at h3
  · rename_i h; exact callOk ok33 Try.func95 h1 h2 h (lfOkF_no _ _).body (e95 _ _) rfl h3
  · exact ok33 _ _ _ _ _ h1 h2 h3

/-- impl.greater -/
noncomputable def r96 (x0 x1 : Nat) : Nat :=
 cond (fgt .f32 x1 x0)
  (x1)
  (x0)
noncomputable def a96 (x0 x1 : Nat) (p : Nat) : Res := firstT [(true, .float .f32 p, st0)]
noncomputable def w96 (x0 x1 : Nat) : Res :=
 (cond (fgt .f32 x1 x0)
 (a96 x0 x1 (x1))
 (a96 x0 x1 (x0)))
set_option maxRecDepth 100000 in
set_option maxHeartbeats 4000000 in
theorem e96 (x0 x1 : Nat) : evFn Try.prog ext T34 noL 200 Try.f96 [.float .f32 x0, .float .f32 x1] st0 = firstT [(true, .float .f32 (r96 x0 x1), st0)] :=
 (show evFn Try.prog ext T34 noL 200 Try.f96 [.float .f32 x0, .float .f32 x1] st0 = w96 x0 x1 from by kernel_rfl).trans
 (show w96 x0 x1 = a96 x0 x1 (r96 x0 x1) from by unfold w96 r96; exact (cond_app (a96 x0 x1) _ rfl rfl))
noncomputable def s96 (args : List Value) (s : St) : List (Bool × Value × St) :=
 match args, s.h with
 | [.float .f32 x0, .float .f32 x1], [] => [(true, .float .f32 (r96 x0 x1), st0)]
 | _, _ => T34 96 args s
noncomputable def T35 : CallF := addF T34 96 s96
set_option maxRecDepth 100000 in
set_option maxHeartbeats 4000000 in
theorem ok35 : CfOk Try.prog T35 := by
  refine cfOk_add ok34 fun args s r s' h1 h2 h3 => ?_
  unfold s96 at h3; split at h3
  · rename_i h; exact callOk ok34 Try.func96 h1 h2 h (lfOkF_no _ _).body (e96 _ _) rfl h3
  · exact ok34 _ _ _ _ _ h1 h2 h3

/-- impl.doNumbers -/
noncomputable def r84 (x0 : Int) (x1 x2 x3 : Nat) (x4 : List (List Int)) : Nat × Nat :=
 let c6 := (r95 (Int.toNat ((x4.getD (x1 + 0) []).getD 0 0)) (Int.toNat ((x4.getD (x1 + (Int.toNat (IntKind.i64.wrap (((x2 : Nat) : Int) - 1)))) []).getD 0 0)))
 let c7 := (r96 (Int.toNat ((x4.getD (x1 + 0) []).getD 0 0)) (Int.toNat ((x4.getD (x1 + (Int.toNat (IntKind.i64.wrap (((x2 : Nat) : Int) - 1)))) []).getD 0 0)))
 cond (Nat.blt 0 x2)
  (cond (Nat.blt (x1 + 0) x4.length)
   (cond ((decide ((0 : Int) ≤ (IntKind.i64.wrap (((x2 : Nat) : Int) - 1)))) && (Nat.blt (Int.toNat (IntKind.i64.wrap (((x2 : Nat) : Int) - 1))) x2))
    (cond (Nat.blt (x1 + (Int.toNat (IntKind.i64.wrap (((x2 : Nat) : Int) - 1)))) x4.length)
     (cond ((x0 : Int) == 5)
      (0, (fadd .f32 (Int.toNat ((x4.getD (x1 + 0) []).getD 0 0)) (Int.toNat ((x4.getD (x1 + (Int.toNat (IntKind.i64.wrap (((x2 : Nat) : Int) - 1)))) []).getD 0 0))))
      (cond ((x0 : Int) == 6)
       (0, (fsub .f32 (Int.toNat ((x4.getD (x1 + 0) []).getD 0 0)) (Int.toNat ((x4.getD (x1 + (Int.toNat (IntKind.i64.wrap (((x2 : Nat) : Int) - 1)))) []).getD 0 0))))
       (cond ((x0 : Int) == 7)
        (0, (fmul .f32 (Int.toNat ((x4.getD (x1 + 0) []).getD 0 0)) (Int.toNat ((x4.getD (x1 + (Int.toNat (IntKind.i64.wrap (((x2 : Nat) : Int) - 1)))) []).getD 0 0))))
        (cond ((x0 : Int) == 8)
         (cond (flt .f32 (Int.toNat ((x4.getD (x1 + 0) []).getD 0 0)) (Int.toNat ((x4.getD (x1 + (Int.toNat (IntKind.i64.wrap (((x2 : Nat) : Int) - 1)))) []).getD 0 0)))
          (0, 1065353216)
          (0, 0))
         (cond ((x0 : Int) == 9)
          (0, c6)
          (cond ((x0 : Int) == 10)
           (0, c7)
           (cond ((x0 : Int) == 12)
            (0, (fneg .f32 (Int.toNat ((x4.getD (x1 + 0) []).getD 0 0))))
            (cond (fgt .f32 (Int.toNat ((x4.getD (x1 + 0) []).getD 0 0)) 0)
             (cond (Nat.blt 1 x2)
              (cond (Nat.blt (x1 + 1) x4.length)
               (0, (Int.toNat ((x4.getD (x1 + 1) []).getD 0 0)))
               (1, 0))
              (1, 0))
             (0, (Int.toNat ((x4.getD (x1 + (Int.toNat (IntKind.i64.wrap (((x2 : Nat) : Int) - 1)))) []).getD 0 0)))))))))))
     (1, 0))
    (1, 0))
   (1, 0))
  (1, 0)
noncomputable def a84 (x0 : Int) (x1 x2 x3 : Nat) (x4 : List (List Int)) (p : Nat × Nat) : Res := firstT [((Nat.beq (p.1) 0), .float .f32 (p.2), ⟨[⟨true, (some (.tab [.fl .f32] x4))⟩], 1, []⟩)]
noncomputable def w84 (x0 : Int) (x1 x2 x3 : Nat) (x4 : List (List Int)) : Res :=
 let c6 := (r95 (Int.toNat ((x4.getD (x1 + 0) []).getD 0 0)) (Int.toNat ((x4.getD (x1 + (Int.toNat (IntKind.i64.wrap (((x2 : Nat) : Int) - 1)))) []).getD 0 0)))
 let c7 := (r96 (Int.toNat ((x4.getD (x1 + 0) []).getD 0 0)) (Int.toNat ((x4.getD (x1 + (Int.toNat (IntKind.i64.wrap (((x2 : Nat) : Int) - 1)))) []).getD 0 0)))
 (cond (Nat.blt 0 x2)
 (cond (Nat.blt (x1 + 0) x4.length)
  (cond ((decide ((0 : Int) ≤ (IntKind.i64.wrap (((x2 : Nat) : Int) - 1)))) && (Nat.blt (Int.toNat (IntKind.i64.wrap (((x2 : Nat) : Int) - 1))) x2))
   (cond (Nat.blt (x1 + (Int.toNat (IntKind.i64.wrap (((x2 : Nat) : Int) - 1)))) x4.length)
    (cond ((x0 : Int) == 5)
     (a84 x0 x1 x2 x3 x4 (0, (fadd .f32 (Int.toNat ((x4.getD (x1 + 0) []).getD 0 0)) (Int.toNat ((x4.getD (x1 + (Int.toNat (IntKind.i64.wrap (((x2 : Nat) : Int) - 1)))) []).getD 0 0)))))
     (cond ((x0 : Int) == 6)
      (a84 x0 x1 x2 x3 x4 (0, (fsub .f32 (Int.toNat ((x4.getD (x1 + 0) []).getD 0 0)) (Int.toNat ((x4.getD (x1 + (Int.toNat (IntKind.i64.wrap (((x2 : Nat) : Int) - 1)))) []).getD 0 0)))))
      (cond ((x0 : Int) == 7)
       (a84 x0 x1 x2 x3 x4 (0, (fmul .f32 (Int.toNat ((x4.getD (x1 + 0) []).getD 0 0)) (Int.toNat ((x4.getD (x1 + (Int.toNat (IntKind.i64.wrap (((x2 : Nat) : Int) - 1)))) []).getD 0 0)))))
       (cond ((x0 : Int) == 8)
        (cond (flt .f32 (Int.toNat ((x4.getD (x1 + 0) []).getD 0 0)) (Int.toNat ((x4.getD (x1 + (Int.toNat (IntKind.i64.wrap (((x2 : Nat) : Int) - 1)))) []).getD 0 0)))
         (a84 x0 x1 x2 x3 x4 (0, 1065353216))
         (a84 x0 x1 x2 x3 x4 (0, 0)))
        (cond ((x0 : Int) == 9)
         (a84 x0 x1 x2 x3 x4 (0, c6))
         (cond ((x0 : Int) == 10)
          (a84 x0 x1 x2 x3 x4 (0, c7))
          (cond ((x0 : Int) == 12)
           (a84 x0 x1 x2 x3 x4 (0, (fneg .f32 (Int.toNat ((x4.getD (x1 + 0) []).getD 0 0)))))
           (cond (fgt .f32 (Int.toNat ((x4.getD (x1 + 0) []).getD 0 0)) 0)
            (cond (Nat.blt 1 x2)
             (cond (Nat.blt (x1 + 1) x4.length)
              (a84 x0 x1 x2 x3 x4 (0, (Int.toNat ((x4.getD (x1 + 1) []).getD 0 0))))
              none)
             none)
            (a84 x0 x1 x2 x3 x4 (0, (Int.toNat ((x4.getD (x1 + (Int.toNat (IntKind.i64.wrap (((x2 : Nat) : Int) - 1)))) []).getD 0 0))))))))))))
    none)
   none)
  none)
 none)
set_option maxRecDepth 100000 in
set_option maxHeartbeats 4000000 in
theorem e84 (x0 : Int) (x1 x2 x3 : Nat) (x4 : List (List Int)) : evFn Try.prog ext T35 noL 200 Try.f84 [.int .i8 x0, .slice (some ⟨0, x1, some 0⟩) x2 x3] ⟨[⟨true, (some (.tab [.fl .f32] x4))⟩], 1, []⟩ = firstT [((Nat.beq ((r84 x0 x1 x2 x3 x4).1) 0), .float .f32 ((r84 x0 x1 x2 x3 x4).2), ⟨[⟨true, (some (.tab [.fl .f32] x4))⟩], 1, []⟩)] :=
 (show evFn Try.prog ext T35 noL 200 Try.f84 [.int .i8 x0, .slice (some ⟨0, x1, some 0⟩) x2 x3] ⟨[⟨true, (some (.tab [.fl .f32] x4))⟩], 1, []⟩ = w84 x0 x1 x2 x3 x4 from by kernel_rfl).trans
 (show w84 x0 x1 x2 x3 x4 = a84 x0 x1 x2 x3 x4 (r84 x0 x1 x2 x3 x4) from by unfold w84 r84; exact (cond_app (a84 x0 x1 x2 x3 x4) _ (cond_app (a84 x0 x1 x2 x3 x4) _ (cond_app (a84 x0 x1 x2 x3 x4) _ (cond_app (a84 x0 x1 x2 x3 x4) _ (cond_app (a84 x0 x1 x2 x3 x4) _ rfl (cond_app (a84 x0 x1 x2 x3 x4) _ rfl (cond_app (a84 x0 x1 x2 x3 x4) _ rfl (cond_app (a84 x0 x1 x2 x3 x4) _ (cond_app (a84 x0 x1 x2 x3 x4) _ rfl rfl) (cond_app (a84 x0 x1 x2 x3 x4) _ rfl (cond_app (a84 x0 x1 x2 x3 x4) _ rfl (cond_app (a84 x0 x1 x2 x3 x4) _ rfl (cond_app (a84 x0 x1 x2 x3 x4) _ (cond_app (a84 x0 x1 x2 x3 x4) _ (cond_app (a84 x0 x1 x2 x3 x4) _ rfl rfl) rfl) rfl)))))))) rfl) rfl) rfl) rfl))
noncomputable def s84 (args : List Value) (s : St) : List (Bool × Value × St) :=
 match args, s.h with
 | [.int .i8 x0, .slice (some ⟨f0, x1, some f1⟩) x2 x3], [⟨true, some (.tab [.fl .f32] x4)⟩] => if f0 = 0 ∧ f1 = 0 then [((Nat.beq ((r84 x0 x1 x2 x3 x4).1) 0), .float .f32 ((r84 x0 x1 x2 x3 x4).2), ⟨[⟨true, (some (.tab [.fl .f32] x4))⟩], 1, []⟩)] else T35 84 args s
 | _, _ => T35 84 args s
noncomputable def T36 : CallF := addF T35 84 s84
set_option maxRecDepth 100000 in
set_option maxHeartbeats 4000000 in
theorem ok36 : CfOk Try.prog T36 := by
  refine cfOk_add ok35 fun args s r s' h1 h2 h3 => ?_
  unfold s84 at h3; split at h3
  · rename_i h; split at h3
    · rename_i hc; obtain ⟨rfl, rfl⟩ := hc; exact callOk ok35 Try.func84 h1 h2 h (lfOkF_no _ _).body (e84 _ _ _ _ _) rfl h3
    · exact ok35 _ _ _ _ _ h1 h2 h3
  · exact ok35 _ _ _ _ _ h1 h2 h3

/-- impl.runOn[float32], loop 0: one round -/
noncomputable def b82l0 (ih : Int → Int → Nat → Nat → Nat → Nat → List (List Int) → List (List Int) → List (List Int) → (Nat × List (List Int))) (x0 x1 : Int) (x2 x3 x4 x5 : Nat) (x6 x7 x8 : List (List Int)) : Nat × List (List Int) :=
 let c50 := (r84 ((x8.getD (Int.toNat x1) []).getD 0 0) (Int.toNat (IntKind.i64.wrap (((x7.length : Nat) : Int) - ((r53 ((x8.getD (Int.toNat x1) []).getD 0 0)).1)))) (x7.length - (Int.toNat (IntKind.i64.wrap (((x7.length : Nat) : Int) - ((r53 ((x8.getD (Int.toNat x1) []).getD 0 0)).1))))) (x7.length - (Int.toNat (IntKind.i64.wrap (((x7.length : Nat) : Int) - ((r53 ((x8.getD (Int.toNat x1) []).getD 0 0)).1))))) x7)
 cond (decide ((x1 : Int) < x0))
  (cond ((decide ((0 : Int) ≤ x1)) && (Nat.blt (Int.toNat x1) x8.length))
   (cond ((((x8.getD (Int.toNat x1) []).getD 0 0) : Int) == 1)
    (cond (Nat.ble ((x7.length + 1) * 5) 140737488355328)
     (cond (Nat.beq ((ih x0 (IntKind.i64.wrap (x1 + 1)) x2 x3 x4 x5 x6 (((x7.drop 0).take x7.length) ++ ([[(((Int.toNat ((x8.getD (Int.toNat x1) []).getD 2 0)) : Nat) : Int)]] : List (List Int))) x8).1) 0)
      (0, [])
      (cond (Nat.beq ((ih x0 (IntKind.i64.wrap (x1 + 1)) x2 x3 x4 x5 x6 (((x7.drop 0).take x7.length) ++ ([[(((Int.toNat ((x8.getD (Int.toNat x1) []).getD 2 0)) : Nat) : Int)]] : List (List Int))) x8).1) 1)
       (1, ((ih x0 (IntKind.i64.wrap (x1 + 1)) x2 x3 x4 x5 x6 (((x7.drop 0).take x7.length) ++ ([[(((Int.toNat ((x8.getD (Int.toNat x1) []).getD 2 0)) : Nat) : Int)]] : List (List Int))) x8).2))
       (cond (Nat.beq ((ih x0 (IntKind.i64.wrap (x1 + 1)) x2 x3 x4 x5 x6 (((x7.drop 0).take x7.length) ++ ([[(((Int.toNat ((x8.getD (Int.toNat x1) []).getD 2 0)) : Nat) : Int)]] : List (List Int))) x8).1) 2)
        (0, [])
        (3, []))))
     (3, []))
    (cond ((((x8.getD (Int.toNat x1) []).getD 0 0) : Int) == 2)
     (cond ((decide ((0 : Int) ≤ ((x8.getD (Int.toNat x1) []).getD 1 0))) && (Nat.blt (Int.toNat ((x8.getD (Int.toNat x1) []).getD 1 0)) 4))
      (cond (Nat.beq (0 + (Int.toNat ((x8.getD (Int.toNat x1) []).getD 1 0)) * 1) 0)
       (cond (Nat.ble ((x7.length + 1) * 5) 140737488355328)
        (cond (Nat.beq ((ih x0 (IntKind.i64.wrap (x1 + 1)) x2 x3 x4 x5 x6 (((x7.drop 0).take x7.length) ++ ([[((x2 : Nat) : Int)]] : List (List Int))) x8).1) 0)
         (0, [])
         (cond (Nat.beq ((ih x0 (IntKind.i64.wrap (x1 + 1)) x2 x3 x4 x5 x6 (((x7.drop 0).take x7.length) ++ ([[((x2 : Nat) : Int)]] : List (List Int))) x8).1) 1)
          (1, ((ih x0 (IntKind.i64.wrap (x1 + 1)) x2 x3 x4 x5 x6 (((x7.drop 0).take x7.length) ++ ([[((x2 : Nat) : Int)]] : List (List Int))) x8).2))
          (cond (Nat.beq ((ih x0 (IntKind.i64.wrap (x1 + 1)) x2 x3 x4 x5 x6 (((x7.drop 0).take x7.length) ++ ([[((x2 : Nat) : Int)]] : List (List Int))) x8).1) 2)
           (0, [])
           (3, []))))
        (3, []))
       (cond (Nat.beq (0 + (Int.toNat ((x8.getD (Int.toNat x1) []).getD 1 0)) * 1) 1)
        (cond (Nat.ble ((x7.length + 1) * 5) 140737488355328)
         (cond (Nat.beq ((ih x0 (IntKind.i64.wrap (x1 + 1)) x2 x3 x4 x5 x6 (((x7.drop 0).take x7.length) ++ ([[((x3 : Nat) : Int)]] : List (List Int))) x8).1) 0)
          (0, [])
          (cond (Nat.beq ((ih x0 (IntKind.i64.wrap (x1 + 1)) x2 x3 x4 x5 x6 (((x7.drop 0).take x7.length) ++ ([[((x3 : Nat) : Int)]] : List (List Int))) x8).1) 1)
           (1, ((ih x0 (IntKind.i64.wrap (x1 + 1)) x2 x3 x4 x5 x6 (((x7.drop 0).take x7.length) ++ ([[((x3 : Nat) : Int)]] : List (List Int))) x8).2))
           (cond (Nat.beq ((ih x0 (IntKind.i64.wrap (x1 + 1)) x2 x3 x4 x5 x6 (((x7.drop 0).take x7.length) ++ ([[((x3 : Nat) : Int)]] : List (List Int))) x8).1) 2)
            (0, [])
            (3, []))))
         (3, []))
        (cond (Nat.beq (0 + (Int.toNat ((x8.getD (Int.toNat x1) []).getD 1 0)) * 1) 2)
         (cond (Nat.ble ((x7.length + 1) * 5) 140737488355328)
          (cond (Nat.beq ((ih x0 (IntKind.i64.wrap (x1 + 1)) x2 x3 x4 x5 x6 (((x7.drop 0).take x7.length) ++ ([[((x4 : Nat) : Int)]] : List (List Int))) x8).1) 0)
           (0, [])
           (cond (Nat.beq ((ih x0 (IntKind.i64.wrap (x1 + 1)) x2 x3 x4 x5 x6 (((x7.drop 0).take x7.length) ++ ([[((x4 : Nat) : Int)]] : List (List Int))) x8).1) 1)
            (1, ((ih x0 (IntKind.i64.wrap (x1 + 1)) x2 x3 x4 x5 x6 (((x7.drop 0).take x7.length) ++ ([[((x4 : Nat) : Int)]] : List (List Int))) x8).2))
            (cond (Nat.beq ((ih x0 (IntKind.i64.wrap (x1 + 1)) x2 x3 x4 x5 x6 (((x7.drop 0).take x7.length) ++ ([[((x4 : Nat) : Int)]] : List (List Int))) x8).1) 2)
             (0, [])
             (3, []))))
          (3, []))
         (cond (Nat.beq (0 + (Int.toNat ((x8.getD (Int.toNat x1) []).getD 1 0)) * 1) 3)
          (cond (Nat.ble ((x7.length + 1) * 5) 140737488355328)
           (cond (Nat.beq ((ih x0 (IntKind.i64.wrap (x1 + 1)) x2 x3 x4 x5 x6 (((x7.drop 0).take x7.length) ++ ([[((x5 : Nat) : Int)]] : List (List Int))) x8).1) 0)
            (0, [])
            (cond (Nat.beq ((ih x0 (IntKind.i64.wrap (x1 + 1)) x2 x3 x4 x5 x6 (((x7.drop 0).take x7.length) ++ ([[((x5 : Nat) : Int)]] : List (List Int))) x8).1) 1)
             (1, ((ih x0 (IntKind.i64.wrap (x1 + 1)) x2 x3 x4 x5 x6 (((x7.drop 0).take x7.length) ++ ([[((x5 : Nat) : Int)]] : List (List Int))) x8).2))
             (cond (Nat.beq ((ih x0 (IntKind.i64.wrap (x1 + 1)) x2 x3 x4 x5 x6 (((x7.drop 0).take x7.length) ++ ([[((x5 : Nat) : Int)]] : List (List Int))) x8).1) 2)
              (0, [])
              (3, []))))
           (3, []))
          (3, [])))))
      (3, []))
     (cond ((((x8.getD (Int.toNat x1) []).getD 0 0) : Int) == 3)
      (cond ((decide ((0 : Int) ≤ ((x8.getD (Int.toNat x1) []).getD 1 0))) && (Nat.blt (Int.toNat ((x8.getD (Int.toNat x1) []).getD 1 0)) x6.length))
       (cond (Nat.ble ((x7.length + 1) * 5) 140737488355328)
        (cond (Nat.beq ((ih x0 (IntKind.i64.wrap (x1 + 1)) x2 x3 x4 x5 x6 (((x7.drop 0).take x7.length) ++ ([[(((Int.toNat ((x6.getD (Int.toNat ((x8.getD (Int.toNat x1) []).getD 1 0)) []).getD 0 0)) : Nat) : Int)]] : List (List Int))) x8).1) 0)
         (0, [])
         (cond (Nat.beq ((ih x0 (IntKind.i64.wrap (x1 + 1)) x2 x3 x4 x5 x6 (((x7.drop 0).take x7.length) ++ ([[(((Int.toNat ((x6.getD (Int.toNat ((x8.getD (Int.toNat x1) []).getD 1 0)) []).getD 0 0)) : Nat) : Int)]] : List (List Int))) x8).1) 1)
          (1, ((ih x0 (IntKind.i64.wrap (x1 + 1)) x2 x3 x4 x5 x6 (((x7.drop 0).take x7.length) ++ ([[(((Int.toNat ((x6.getD (Int.toNat ((x8.getD (Int.toNat x1) []).getD 1 0)) []).getD 0 0)) : Nat) : Int)]] : List (List Int))) x8).2))
          (cond (Nat.beq ((ih x0 (IntKind.i64.wrap (x1 + 1)) x2 x3 x4 x5 x6 (((x7.drop 0).take x7.length) ++ ([[(((Int.toNat ((x6.getD (Int.toNat ((x8.getD (Int.toNat x1) []).getD 1 0)) []).getD 0 0)) : Nat) : Int)]] : List (List Int))) x8).1) 2)
           (0, [])
           (3, []))))
        (3, []))
       (3, []))
      (cond ((Nat.blt (Int.toNat (IntKind.i64.wrap (((x7.length : Nat) : Int) - ((r53 ((x8.getD (Int.toNat x1) []).getD 0 0)).1)))) x7.length) && (((decide ((0 : Int) ≤ (IntKind.i64.wrap (((x7.length : Nat) : Int) - ((r53 ((x8.getD (Int.toNat x1) []).getD 0 0)).1))))) && (Nat.ble (Int.toNat (IntKind.i64.wrap (((x7.length : Nat) : Int) - ((r53 ((x8.getD (Int.toNat x1) []).getD 0 0)).1)))) x7.length)) && (Nat.ble x7.length x7.length)))
       (cond ((((x8.getD (Int.toNat x1) []).getD 0 0) : Int) == 4)
        (cond (Nat.blt 0 (x7.length - (Int.toNat (IntKind.i64.wrap (((x7.length : Nat) : Int) - ((r53 ((x8.getD (Int.toNat x1) []).getD 0 0)).1))))))
         (cond (Nat.blt ((Int.toNat (IntKind.i64.wrap (((x7.length : Nat) : Int) - ((r53 ((x8.getD (Int.toNat x1) []).getD 0 0)).1)))) + 0) x7.length)
          (cond (Nat.ble ((x6.length + 1) * 5) 140737488355328)
           (cond ((Nat.blt 0 x7.length) && (Nat.ble 0 x7.length))
            (cond (Nat.beq ((ih x0 (IntKind.i64.wrap (x1 + 1)) x2 x3 x4 x5 (((x6.drop 0).take x6.length) ++ ([[(((Int.toNat ((x7.getD ((Int.toNat (IntKind.i64.wrap (((x7.length : Nat) : Int) - ((r53 ((x8.getD (Int.toNat x1) []).getD 0 0)).1)))) + 0) []).getD 0 0)) : Nat) : Int)]] : List (List Int))) ([] : List (List Int)) x8).1) 0)
             (1, (((x6.drop 0).take x6.length) ++ ([[(((Int.toNat ((x7.getD ((Int.toNat (IntKind.i64.wrap (((x7.length : Nat) : Int) - ((r53 ((x8.getD (Int.toNat x1) []).getD 0 0)).1)))) + 0) []).getD 0 0)) : Nat) : Int)]] : List (List Int))))
             (cond (Nat.beq ((ih x0 (IntKind.i64.wrap (x1 + 1)) x2 x3 x4 x5 (((x6.drop 0).take x6.length) ++ ([[(((Int.toNat ((x7.getD ((Int.toNat (IntKind.i64.wrap (((x7.length : Nat) : Int) - ((r53 ((x8.getD (Int.toNat x1) []).getD 0 0)).1)))) + 0) []).getD 0 0)) : Nat) : Int)]] : List (List Int))) ([] : List (List Int)) x8).1) 1)
              (1, ((ih x0 (IntKind.i64.wrap (x1 + 1)) x2 x3 x4 x5 (((x6.drop 0).take x6.length) ++ ([[(((Int.toNat ((x7.getD ((Int.toNat (IntKind.i64.wrap (((x7.length : Nat) : Int) - ((r53 ((x8.getD (Int.toNat x1) []).getD 0 0)).1)))) + 0) []).getD 0 0)) : Nat) : Int)]] : List (List Int))) ([] : List (List Int)) x8).2))
              (cond (Nat.beq ((ih x0 (IntKind.i64.wrap (x1 + 1)) x2 x3 x4 x5 (((x6.drop 0).take x6.length) ++ ([[(((Int.toNat ((x7.getD ((Int.toNat (IntKind.i64.wrap (((x7.length : Nat) : Int) - ((r53 ((x8.getD (Int.toNat x1) []).getD 0 0)).1)))) + 0) []).getD 0 0)) : Nat) : Int)]] : List (List Int))) ([] : List (List Int)) x8).1) 2)
               (1, (((x6.drop 0).take x6.length) ++ ([[(((Int.toNat ((x7.getD ((Int.toNat (IntKind.i64.wrap (((x7.length : Nat) : Int) - ((r53 ((x8.getD (Int.toNat x1) []).getD 0 0)).1)))) + 0) []).getD 0 0)) : Nat) : Int)]] : List (List Int))))
               (3, []))))
            (3, []))
           (3, []))
          (3, []))
         (3, []))
        (cond (Nat.beq (c50.1) 0)
         (cond ((Nat.blt 0 x7.length) && (((decide ((0 : Int) ≤ (IntKind.i64.wrap (((x7.length : Nat) : Int) - ((r53 ((x8.getD (Int.toNat x1) []).getD 0 0)).1))))) && (Nat.ble 0 (Int.toNat (IntKind.i64.wrap (((x7.length : Nat) : Int) - ((r53 ((x8.getD (Int.toNat x1) []).getD 0 0)).1)))))) && (Nat.ble (Int.toNat (IntKind.i64.wrap (((x7.length : Nat) : Int) - ((r53 ((x8.getD (Int.toNat x1) []).getD 0 0)).1)))) x7.length)))
          (cond ((Nat.ble (Int.toNat (IntKind.i64.wrap (((x7.length : Nat) : Int) - ((r53 ((x8.getD (Int.toNat x1) []).getD 0 0)).1)))) x7.length) && (Nat.ble (((Int.toNat (IntKind.i64.wrap (((x7.length : Nat) : Int) - ((r53 ((x8.getD (Int.toNat x1) []).getD 0 0)).1)))) + 1) * 5) 140737488355328))
           (cond (Nat.beq ((ih x0 (IntKind.i64.wrap (x1 + 1)) x2 x3 x4 x5 x6 (((x7.drop 0).take (Int.toNat (IntKind.i64.wrap (((x7.length : Nat) : Int) - ((r53 ((x8.getD (Int.toNat x1) []).getD 0 0)).1))))) ++ ([[(((c50.2) : Nat) : Int)]] : List (List Int))) x8).1) 0)
            (0, [])
            (cond (Nat.beq ((ih x0 (IntKind.i64.wrap (x1 + 1)) x2 x3 x4 x5 x6 (((x7.drop 0).take (Int.toNat (IntKind.i64.wrap (((x7.length : Nat) : Int) - ((r53 ((x8.getD (Int.toNat x1) []).getD 0 0)).1))))) ++ ([[(((c50.2) : Nat) : Int)]] : List (List Int))) x8).1) 1)
             (1, ((ih x0 (IntKind.i64.wrap (x1 + 1)) x2 x3 x4 x5 x6 (((x7.drop 0).take (Int.toNat (IntKind.i64.wrap (((x7.length : Nat) : Int) - ((r53 ((x8.getD (Int.toNat x1) []).getD 0 0)).1))))) ++ ([[(((c50.2) : Nat) : Int)]] : List (List Int))) x8).2))
             (cond (Nat.beq ((ih x0 (IntKind.i64.wrap (x1 + 1)) x2 x3 x4 x5 x6 (((x7.drop 0).take (Int.toNat (IntKind.i64.wrap (((x7.length : Nat) : Int) - ((r53 ((x8.getD (Int.toNat x1) []).getD 0 0)).1))))) ++ ([[(((c50.2) : Nat) : Int)]] : List (List Int))) x8).1) 2)
              (0, [])
              (3, []))))
           (3, []))
          (3, []))
         (3, [])))
       (3, [])))))
   (3, []))
  (2, [])
noncomputable def r82l0 : Nat → Int → Int → Nat → Nat → Nat → Nat → List (List Int) → List (List Int) → List (List Int) → (Nat × List (List Int))
 | 0 => fun _ _ _ _ _ _ _ _ _ => (3, [])
 | m + 1 => b82l0 (r82l0 m)
noncomputable def a82l0 (x0 x1 : Int) (x2 x3 x4 x5 : Nat) (x6 x7 x8 : List (List Int)) (p : Nat × List (List Int)) : Option (Fin' × List Value × St) := firstT ([((Nat.beq (p.1) 0), .exit 0, [wsl 1], ⟨[⟨true, (some (.cells [.float .f32 x2, .float .f32 x3, .float .f32 x4, .float .f32 x5]))⟩, ⟨true, (some (.tab [.fl .f32] x6))⟩, ⟨true, none⟩, ⟨true, (some (.tab [.int .i8, .int .i16, .fl .f32] x8))⟩], 4, [1, 2]⟩), ((Nat.beq (p.1) 1), .exit 0, [wsl 4], ⟨[⟨true, (some (.cells [.float .f32 x2, .float .f32 x3, .float .f32 x4, .float .f32 x5]))⟩, ⟨true, none⟩, ⟨true, none⟩, ⟨true, (some (.tab [.int .i8, .int .i16, .fl .f32] x8))⟩, ⟨true, (some (.tab [.fl .f32] (p.2)))⟩], 4, [1, 2]⟩), ((Nat.beq (p.1) 2), .exit 0, [wsl 1], ⟨[⟨true, (some (.cells [.float .f32 x2, .float .f32 x3, .float .f32 x4, .float .f32 x5]))⟩, ⟨true, (some (.tab [.fl .f32] x6))⟩, ⟨true, (some (.tab [.fl .f32] x7))⟩, ⟨true, (some (.tab [.int .i8, .int .i16, .fl .f32] x8))⟩], 4, [1, 2]⟩)].map fun (b, x) => (b, (x.1, frameOf 95 [9] x.2.1, x.2.2)))
noncomputable def u82l0 (x0 x1 : Int) (x2 x3 x4 x5 : Nat) (x6 x7 x8 : List (List Int)) (p : Nat × List (List Int)) : Option (Fin' × List Value × St) := alts ([((Nat.beq (p.1) 0), .exit 0, [wsl 1], ⟨[⟨true, (some (.cells [.float .f32 x2, .float .f32 x3, .float .f32 x4, .float .f32 x5]))⟩, ⟨true, (some (.tab [.fl .f32] x6))⟩, ⟨true, none⟩, ⟨true, (some (.tab [.int .i8, .int .i16, .fl .f32] x8))⟩], 4, [1, 2]⟩), ((Nat.beq (p.1) 1), .exit 0, [wsl 4], ⟨[⟨true, (some (.cells [.float .f32 x2, .float .f32 x3, .float .f32 x4, .float .f32 x5]))⟩, ⟨true, none⟩, ⟨true, none⟩, ⟨true, (some (.tab [.int .i8, .int .i16, .fl .f32] x8))⟩, ⟨true, (some (.tab [.fl .f32] (p.2)))⟩], 4, [1, 2]⟩), ((Nat.beq (p.1) 2), .exit 0, [wsl 1], ⟨[⟨true, (some (.cells [.float .f32 x2, .float .f32 x3, .float .f32 x4, .float .f32 x5]))⟩, ⟨true, (some (.tab [.fl .f32] x6))⟩, ⟨true, (some (.tab [.fl .f32] x7))⟩, ⟨true, (some (.tab [.int .i8, .int .i16, .fl .f32] x8))⟩], 4, [1, 2]⟩)].map fun (b, x) => (b, (x.1, frameOf 95 [9] x.2.1, x.2.2))) some
theorem v82l0 (x0 x1 : Int) (x2 x3 x4 x5 : Nat) (x6 x7 x8 : List (List Int)) (p : Nat × List (List Int)) : u82l0 x0 x1 x2 x3 x4 x5 x6 x7 x8 p = a82l0 x0 x1 x2 x3 x4 x5 x6 x7 x8 p := alts_first _
noncomputable def q82l0 (m : Nat) : SumK := fun vals s =>
 match vals, s.h with
 | [.func (.func f0) ⟨[]⟩ ⟨[]⟩, .func (.func f1) ⟨[]⟩ ⟨[]⟩, .pointer (some ⟨f2, f3, some f4⟩), .iface f5 .nilIface, .iface f6 .nilIface, .iface f7 .nilIface, .int .i64 x0, .int .i64 x1], [⟨true, some (.cells [.float .f32 x2, .float .f32 x3, .float .f32 x4, .float .f32 x5])⟩, ⟨true, some (.tab [.fl .f32] x6)⟩, ⟨true, some (.tab [.fl .f32] x7)⟩, ⟨true, some (.tab [.int .i8, .int .i16, .fl .f32] x8)⟩] => if f0 = 83 ∧ f1 = 84 ∧ f2 = 0 ∧ f3 = 0 ∧ f4 = 0 ∧ f5 = 1 ∧ f6 = 2 ∧ f7 = 3 then [((Nat.beq ((r82l0 m x0 x1 x2 x3 x4 x5 x6 x7 x8).1) 0), .exit 0, [wsl 1], ⟨[⟨true, (some (.cells [.float .f32 x2, .float .f32 x3, .float .f32 x4, .float .f32 x5]))⟩, ⟨true, (some (.tab [.fl .f32] x6))⟩, ⟨true, none⟩, ⟨true, (some (.tab [.int .i8, .int .i16, .fl .f32] x8))⟩], 4, [1, 2]⟩), ((Nat.beq ((r82l0 m x0 x1 x2 x3 x4 x5 x6 x7 x8).1) 1), .exit 0, [wsl 4], ⟨[⟨true, (some (.cells [.float .f32 x2, .float .f32 x3, .float .f32 x4, .float .f32 x5]))⟩, ⟨true, none⟩, ⟨true, none⟩, ⟨true, (some (.tab [.int .i8, .int .i16, .fl .f32] x8))⟩, ⟨true, (some (.tab [.fl .f32] ((r82l0 m x0 x1 x2 x3 x4 x5 x6 x7 x8).2)))⟩], 4, [1, 2]⟩), ((Nat.beq ((r82l0 m x0 x1 x2 x3 x4 x5 x6 x7 x8).1) 2), .exit 0, [wsl 1], ⟨[⟨true, (some (.cells [.float .f32 x2, .float .f32 x3, .float .f32 x4, .float .f32 x5]))⟩, ⟨true, (some (.tab [.fl .f32] x6))⟩, ⟨true, (some (.tab [.fl .f32] x7))⟩, ⟨true, (some (.tab [.int .i8, .int .i16, .fl .f32] x8))⟩], 4, [1, 2]⟩)] else noQ vals s
 | _, _ => noQ vals s
noncomputable def w82l0 (ih : Int → Int → Nat → Nat → Nat → Nat → List (List Int) → List (List Int) → List (List Int) → (Nat × List (List Int))) (x0 x1 : Int) (x2 x3 x4 x5 : Nat) (x6 x7 x8 : List (List Int)) : Option (Fin' × List Value × St) :=
 let c50 := (r84 ((x8.getD (Int.toNat x1) []).getD 0 0) (Int.toNat (IntKind.i64.wrap (((x7.length : Nat) : Int) - ((r53 ((x8.getD (Int.toNat x1) []).getD 0 0)).1)))) (x7.length - (Int.toNat (IntKind.i64.wrap (((x7.length : Nat) : Int) - ((r53 ((x8.getD (Int.toNat x1) []).getD 0 0)).1))))) (x7.length - (Int.toNat (IntKind.i64.wrap (((x7.length : Nat) : Int) - ((r53 ((x8.getD (Int.toNat x1) []).getD 0 0)).1))))) x7)
 (cond (decide ((x1 : Int) < x0))
 (cond ((decide ((0 : Int) ≤ x1)) && (Nat.blt (Int.toNat x1) x8.length))
  (cond (Nat.blt (Int.toNat x1) x8.length)
   (cond ((((x8.getD (Int.toNat x1) []).getD 0 0) : Int) == 1)
    (cond (Nat.ble ((x7.length + 1) * 5) 140737488355328)
     (cond (Nat.beq ((ih x0 (IntKind.i64.wrap (x1 + 1)) x2 x3 x4 x5 x6 (((x7.drop 0).take x7.length) ++ ([[(((Int.toNat ((x8.getD (Int.toNat x1) []).getD 2 0)) : Nat) : Int)]] : List (List Int))) x8).1) 0)
      (a82l0 x0 x1 x2 x3 x4 x5 x6 x7 x8 (0, []))
      (cond (Nat.beq ((ih x0 (IntKind.i64.wrap (x1 + 1)) x2 x3 x4 x5 x6 (((x7.drop 0).take x7.length) ++ ([[(((Int.toNat ((x8.getD (Int.toNat x1) []).getD 2 0)) : Nat) : Int)]] : List (List Int))) x8).1) 1)
       (a82l0 x0 x1 x2 x3 x4 x5 x6 x7 x8 (1, ((ih x0 (IntKind.i64.wrap (x1 + 1)) x2 x3 x4 x5 x6 (((x7.drop 0).take x7.length) ++ ([[(((Int.toNat ((x8.getD (Int.toNat x1) []).getD 2 0)) : Nat) : Int)]] : List (List Int))) x8).2)))
       (cond (Nat.beq ((ih x0 (IntKind.i64.wrap (x1 + 1)) x2 x3 x4 x5 x6 (((x7.drop 0).take x7.length) ++ ([[(((Int.toNat ((x8.getD (Int.toNat x1) []).getD 2 0)) : Nat) : Int)]] : List (List Int))) x8).1) 2)
        (a82l0 x0 x1 x2 x3 x4 x5 x6 x7 x8 (0, []))
        none)))
     none)
    (cond ((((x8.getD (Int.toNat x1) []).getD 0 0) : Int) == 2)
     (cond ((decide ((0 : Int) ≤ ((x8.getD (Int.toNat x1) []).getD 1 0))) && (Nat.blt (Int.toNat ((x8.getD (Int.toNat x1) []).getD 1 0)) 4))
      (cond (Nat.beq (0 + (Int.toNat ((x8.getD (Int.toNat x1) []).getD 1 0)) * 1) 0)
       (cond (Nat.ble ((x7.length + 1) * 5) 140737488355328)
        (cond (Nat.beq ((ih x0 (IntKind.i64.wrap (x1 + 1)) x2 x3 x4 x5 x6 (((x7.drop 0).take x7.length) ++ ([[((x2 : Nat) : Int)]] : List (List Int))) x8).1) 0)
         (a82l0 x0 x1 x2 x3 x4 x5 x6 x7 x8 (0, []))
         (cond (Nat.beq ((ih x0 (IntKind.i64.wrap (x1 + 1)) x2 x3 x4 x5 x6 (((x7.drop 0).take x7.length) ++ ([[((x2 : Nat) : Int)]] : List (List Int))) x8).1) 1)
          (a82l0 x0 x1 x2 x3 x4 x5 x6 x7 x8 (1, ((ih x0 (IntKind.i64.wrap (x1 + 1)) x2 x3 x4 x5 x6 (((x7.drop 0).take x7.length) ++ ([[((x2 : Nat) : Int)]] : List (List Int))) x8).2)))
          (cond (Nat.beq ((ih x0 (IntKind.i64.wrap (x1 + 1)) x2 x3 x4 x5 x6 (((x7.drop 0).take x7.length) ++ ([[((x2 : Nat) : Int)]] : List (List Int))) x8).1) 2)
           (a82l0 x0 x1 x2 x3 x4 x5 x6 x7 x8 (0, []))
           none)))
        none)
       (cond (Nat.beq (0 + (Int.toNat ((x8.getD (Int.toNat x1) []).getD 1 0)) * 1) 1)
        (cond (Nat.ble ((x7.length + 1) * 5) 140737488355328)
         (cond (Nat.beq ((ih x0 (IntKind.i64.wrap (x1 + 1)) x2 x3 x4 x5 x6 (((x7.drop 0).take x7.length) ++ ([[((x3 : Nat) : Int)]] : List (List Int))) x8).1) 0)
          (a82l0 x0 x1 x2 x3 x4 x5 x6 x7 x8 (0, []))
          (cond (Nat.beq ((ih x0 (IntKind.i64.wrap (x1 + 1)) x2 x3 x4 x5 x6 (((x7.drop 0).take x7.length) ++ ([[((x3 : Nat) : Int)]] : List (List Int))) x8).1) 1)
           (a82l0 x0 x1 x2 x3 x4 x5 x6 x7 x8 (1, ((ih x0 (IntKind.i64.wrap (x1 + 1)) x2 x3 x4 x5 x6 (((x7.drop 0).take x7.length) ++ ([[((x3 : Nat) : Int)]] : List (List Int))) x8).2)))
           (cond (Nat.beq ((ih x0 (IntKind.i64.wrap (x1 + 1)) x2 x3 x4 x5 x6 (((x7.drop 0).take x7.length) ++ ([[((x3 : Nat) : Int)]] : List (List Int))) x8).1) 2)
            (a82l0 x0 x1 x2 x3 x4 x5 x6 x7 x8 (0, []))
            none)))
         none)
        (cond (Nat.beq (0 + (Int.toNat ((x8.getD (Int.toNat x1) []).getD 1 0)) * 1) 2)
         (cond (Nat.ble ((x7.length + 1) * 5) 140737488355328)
          (cond (Nat.beq ((ih x0 (IntKind.i64.wrap (x1 + 1)) x2 x3 x4 x5 x6 (((x7.drop 0).take x7.length) ++ ([[((x4 : Nat) : Int)]] : List (List Int))) x8).1) 0)
           (a82l0 x0 x1 x2 x3 x4 x5 x6 x7 x8 (0, []))
           (cond (Nat.beq ((ih x0 (IntKind.i64.wrap (x1 + 1)) x2 x3 x4 x5 x6 (((x7.drop 0).take x7.length) ++ ([[((x4 : Nat) : Int)]] : List (List Int))) x8).1) 1)
            (a82l0 x0 x1 x2 x3 x4 x5 x6 x7 x8 (1, ((ih x0 (IntKind.i64.wrap (x1 + 1)) x2 x3 x4 x5 x6 (((x7.drop 0).take x7.length) ++ ([[((x4 : Nat) : Int)]] : List (List Int))) x8).2)))
            (cond (Nat.beq ((ih x0 (IntKind.i64.wrap (x1 + 1)) x2 x3 x4 x5 x6 (((x7.drop 0).take x7.length) ++ ([[((x4 : Nat) : Int)]] : List (List Int))) x8).1) 2)
             (a82l0 x0 x1 x2 x3 x4 x5 x6 x7 x8 (0, []))
             none)))
          none)
         (cond (Nat.beq (0 + (Int.toNat ((x8.getD (Int.toNat x1) []).getD 1 0)) * 1) 3)
          (cond (Nat.ble ((x7.length + 1) * 5) 140737488355328)
           (cond (Nat.beq ((ih x0 (IntKind.i64.wrap (x1 + 1)) x2 x3 x4 x5 x6 (((x7.drop 0).take x7.length) ++ ([[((x5 : Nat) : Int)]] : List (List Int))) x8).1) 0)
            (a82l0 x0 x1 x2 x3 x4 x5 x6 x7 x8 (0, []))
            (cond (Nat.beq ((ih x0 (IntKind.i64.wrap (x1 + 1)) x2 x3 x4 x5 x6 (((x7.drop 0).take x7.length) ++ ([[((x5 : Nat) : Int)]] : List (List Int))) x8).1) 1)
             (a82l0 x0 x1 x2 x3 x4 x5 x6 x7 x8 (1, ((ih x0 (IntKind.i64.wrap (x1 + 1)) x2 x3 x4 x5 x6 (((x7.drop 0).take x7.length) ++ ([[((x5 : Nat) : Int)]] : List (List Int))) x8).2)))
             (cond (Nat.beq ((ih x0 (IntKind.i64.wrap (x1 + 1)) x2 x3 x4 x5 x6 (((x7.drop 0).take x7.length) ++ ([[((x5 : Nat) : Int)]] : List (List Int))) x8).1) 2)
              (a82l0 x0 x1 x2 x3 x4 x5 x6 x7 x8 (0, []))
              none)))
           none)
          none))))
      none)
     (cond ((((x8.getD (Int.toNat x1) []).getD 0 0) : Int) == 3)
      (cond ((decide ((0 : Int) ≤ ((x8.getD (Int.toNat x1) []).getD 1 0))) && (Nat.blt (Int.toNat ((x8.getD (Int.toNat x1) []).getD 1 0)) x6.length))
       (cond (Nat.blt (Int.toNat ((x8.getD (Int.toNat x1) []).getD 1 0)) x6.length)
        (cond (Nat.ble ((x7.length + 1) * 5) 140737488355328)
         (cond (Nat.beq ((ih x0 (IntKind.i64.wrap (x1 + 1)) x2 x3 x4 x5 x6 (((x7.drop 0).take x7.length) ++ ([[(((Int.toNat ((x6.getD (Int.toNat ((x8.getD (Int.toNat x1) []).getD 1 0)) []).getD 0 0)) : Nat) : Int)]] : List (List Int))) x8).1) 0)
          (a82l0 x0 x1 x2 x3 x4 x5 x6 x7 x8 (0, []))
          (cond (Nat.beq ((ih x0 (IntKind.i64.wrap (x1 + 1)) x2 x3 x4 x5 x6 (((x7.drop 0).take x7.length) ++ ([[(((Int.toNat ((x6.getD (Int.toNat ((x8.getD (Int.toNat x1) []).getD 1 0)) []).getD 0 0)) : Nat) : Int)]] : List (List Int))) x8).1) 1)
           (a82l0 x0 x1 x2 x3 x4 x5 x6 x7 x8 (1, ((ih x0 (IntKind.i64.wrap (x1 + 1)) x2 x3 x4 x5 x6 (((x7.drop 0).take x7.length) ++ ([[(((Int.toNat ((x6.getD (Int.toNat ((x8.getD (Int.toNat x1) []).getD 1 0)) []).getD 0 0)) : Nat) : Int)]] : List (List Int))) x8).2)))
           (cond (Nat.beq ((ih x0 (IntKind.i64.wrap (x1 + 1)) x2 x3 x4 x5 x6 (((x7.drop 0).take x7.length) ++ ([[(((Int.toNat ((x6.getD (Int.toNat ((x8.getD (Int.toNat x1) []).getD 1 0)) []).getD 0 0)) : Nat) : Int)]] : List (List Int))) x8).1) 2)
            (a82l0 x0 x1 x2 x3 x4 x5 x6 x7 x8 (0, []))
            none)))
         none)
        none)
       none)
      (cond ((Nat.blt (Int.toNat (IntKind.i64.wrap (((x7.length : Nat) : Int) - ((r53 ((x8.getD (Int.toNat x1) []).getD 0 0)).1)))) x7.length) && (((decide ((0 : Int) ≤ (IntKind.i64.wrap (((x7.length : Nat) : Int) - ((r53 ((x8.getD (Int.toNat x1) []).getD 0 0)).1))))) && (Nat.ble (Int.toNat (IntKind.i64.wrap (((x7.length : Nat) : Int) - ((r53 ((x8.getD (Int.toNat x1) []).getD 0 0)).1)))) x7.length)) && (Nat.ble x7.length x7.length)))
       (cond ((((x8.getD (Int.toNat x1) []).getD 0 0) : Int) == 4)
        (cond (Nat.blt 0 (x7.length - (Int.toNat (IntKind.i64.wrap (((x7.length : Nat) : Int) - ((r53 ((x8.getD (Int.toNat x1) []).getD 0 0)).1))))))
         (cond (Nat.blt ((Int.toNat (IntKind.i64.wrap (((x7.length : Nat) : Int) - ((r53 ((x8.getD (Int.toNat x1) []).getD 0 0)).1)))) + 0) x7.length)
          (cond (Nat.ble ((x6.length + 1) * 5) 140737488355328)
           (cond ((Nat.blt 0 x7.length) && (Nat.ble 0 x7.length))
            (cond (Nat.ble 0 x7.length)
             (cond (Nat.beq ((ih x0 (IntKind.i64.wrap (x1 + 1)) x2 x3 x4 x5 (((x6.drop 0).take x6.length) ++ ([[(((Int.toNat ((x7.getD ((Int.toNat (IntKind.i64.wrap (((x7.length : Nat) : Int) - ((r53 ((x8.getD (Int.toNat x1) []).getD 0 0)).1)))) + 0) []).getD 0 0)) : Nat) : Int)]] : List (List Int))) ([] : List (List Int)) x8).1) 0)
              (a82l0 x0 x1 x2 x3 x4 x5 x6 x7 x8 (1, (((x6.drop 0).take x6.length) ++ ([[(((Int.toNat ((x7.getD ((Int.toNat (IntKind.i64.wrap (((x7.length : Nat) : Int) - ((r53 ((x8.getD (Int.toNat x1) []).getD 0 0)).1)))) + 0) []).getD 0 0)) : Nat) : Int)]] : List (List Int)))))
              (cond (Nat.beq ((ih x0 (IntKind.i64.wrap (x1 + 1)) x2 x3 x4 x5 (((x6.drop 0).take x6.length) ++ ([[(((Int.toNat ((x7.getD ((Int.toNat (IntKind.i64.wrap (((x7.length : Nat) : Int) - ((r53 ((x8.getD (Int.toNat x1) []).getD 0 0)).1)))) + 0) []).getD 0 0)) : Nat) : Int)]] : List (List Int))) ([] : List (List Int)) x8).1) 1)
               (a82l0 x0 x1 x2 x3 x4 x5 x6 x7 x8 (1, ((ih x0 (IntKind.i64.wrap (x1 + 1)) x2 x3 x4 x5 (((x6.drop 0).take x6.length) ++ ([[(((Int.toNat ((x7.getD ((Int.toNat (IntKind.i64.wrap (((x7.length : Nat) : Int) - ((r53 ((x8.getD (Int.toNat x1) []).getD 0 0)).1)))) + 0) []).getD 0 0)) : Nat) : Int)]] : List (List Int))) ([] : List (List Int)) x8).2)))
               (cond (Nat.beq ((ih x0 (IntKind.i64.wrap (x1 + 1)) x2 x3 x4 x5 (((x6.drop 0).take x6.length) ++ ([[(((Int.toNat ((x7.getD ((Int.toNat (IntKind.i64.wrap (((x7.length : Nat) : Int) - ((r53 ((x8.getD (Int.toNat x1) []).getD 0 0)).1)))) + 0) []).getD 0 0)) : Nat) : Int)]] : List (List Int))) ([] : List (List Int)) x8).1) 2)
                (a82l0 x0 x1 x2 x3 x4 x5 x6 x7 x8 (1, (((x6.drop 0).take x6.length) ++ ([[(((Int.toNat ((x7.getD ((Int.toNat (IntKind.i64.wrap (((x7.length : Nat) : Int) - ((r53 ((x8.getD (Int.toNat x1) []).getD 0 0)).1)))) + 0) []).getD 0 0)) : Nat) : Int)]] : List (List Int)))))
                none)))
             none)
            none)
           none)
          none)
         none)
        (cond (Nat.beq (c50.1) 0)
         (cond ((Nat.blt 0 x7.length) && (((decide ((0 : Int) ≤ (IntKind.i64.wrap (((x7.length : Nat) : Int) - ((r53 ((x8.getD (Int.toNat x1) []).getD 0 0)).1))))) && (Nat.ble 0 (Int.toNat (IntKind.i64.wrap (((x7.length : Nat) : Int) - ((r53 ((x8.getD (Int.toNat x1) []).getD 0 0)).1)))))) && (Nat.ble (Int.toNat (IntKind.i64.wrap (((x7.length : Nat) : Int) - ((r53 ((x8.getD (Int.toNat x1) []).getD 0 0)).1)))) x7.length)))
          (cond ((Nat.ble (Int.toNat (IntKind.i64.wrap (((x7.length : Nat) : Int) - ((r53 ((x8.getD (Int.toNat x1) []).getD 0 0)).1)))) x7.length) && (Nat.ble (((Int.toNat (IntKind.i64.wrap (((x7.length : Nat) : Int) - ((r53 ((x8.getD (Int.toNat x1) []).getD 0 0)).1)))) + 1) * 5) 140737488355328))
           (cond (Nat.beq ((ih x0 (IntKind.i64.wrap (x1 + 1)) x2 x3 x4 x5 x6 (((x7.drop 0).take (Int.toNat (IntKind.i64.wrap (((x7.length : Nat) : Int) - ((r53 ((x8.getD (Int.toNat x1) []).getD 0 0)).1))))) ++ ([[(((c50.2) : Nat) : Int)]] : List (List Int))) x8).1) 0)
            (a82l0 x0 x1 x2 x3 x4 x5 x6 x7 x8 (0, []))
            (cond (Nat.beq ((ih x0 (IntKind.i64.wrap (x1 + 1)) x2 x3 x4 x5 x6 (((x7.drop 0).take (Int.toNat (IntKind.i64.wrap (((x7.length : Nat) : Int) - ((r53 ((x8.getD (Int.toNat x1) []).getD 0 0)).1))))) ++ ([[(((c50.2) : Nat) : Int)]] : List (List Int))) x8).1) 1)
             (a82l0 x0 x1 x2 x3 x4 x5 x6 x7 x8 (1, ((ih x0 (IntKind.i64.wrap (x1 + 1)) x2 x3 x4 x5 x6 (((x7.drop 0).take (Int.toNat (IntKind.i64.wrap (((x7.length : Nat) : Int) - ((r53 ((x8.getD (Int.toNat x1) []).getD 0 0)).1))))) ++ ([[(((c50.2) : Nat) : Int)]] : List (List Int))) x8).2)))
             (cond (Nat.beq ((ih x0 (IntKind.i64.wrap (x1 + 1)) x2 x3 x4 x5 x6 (((x7.drop 0).take (Int.toNat (IntKind.i64.wrap (((x7.length : Nat) : Int) - ((r53 ((x8.getD (Int.toNat x1) []).getD 0 0)).1))))) ++ ([[(((c50.2) : Nat) : Int)]] : List (List Int))) x8).1) 2)
              (a82l0 x0 x1 x2 x3 x4 x5 x6 x7 x8 (0, []))
              none)))
           none)
          none)
         none))
       none))))
   none)
  none)
 (a82l0 x0 x1 x2 x3 x4 x5 x6 x7 x8 (2, [])))
set_option maxRecDepth 100000 in
set_option maxHeartbeats 4000000 in
theorem e82l0 (m : Nat) (x0 x1 : Int) (x2 x3 x4 x5 : Nat) (x6 x7 x8 : List (List Int)) : evC Try.prog ext T36 noL 200 (loopN Try.f82 0) (loopTail ([2, 3, 5, 9, 10, 20, 21, 22], [10]) [9] [1, 2] (sumK 95 [2, 3, 5, 9, 10, 20, 21, 22] [9] (q82l0 m))) (frameOf 95 [2, 3, 5, 9, 10, 20, 21, 22] [.func (.func 83) #[] #[], .func (.func 84) #[] #[], .pointer (some ⟨0, 0, some 0⟩), wsl 1, wsl 2, wsl 3, .int .i64 x0, .int .i64 x1]) ⟨[⟨true, (some (.cells [.float .f32 x2, .float .f32 x3, .float .f32 x4, .float .f32 x5]))⟩, ⟨true, (some (.tab [.fl .f32] x6))⟩, ⟨true, (some (.tab [.fl .f32] x7))⟩, ⟨true, (some (.tab [.int .i8, .int .i16, .fl .f32] x8))⟩], 4, []⟩ = firstT ([((Nat.beq ((r82l0 (m + 1) x0 x1 x2 x3 x4 x5 x6 x7 x8).1) 0), .exit 0, [wsl 1], ⟨[⟨true, (some (.cells [.float .f32 x2, .float .f32 x3, .float .f32 x4, .float .f32 x5]))⟩, ⟨true, (some (.tab [.fl .f32] x6))⟩, ⟨true, none⟩, ⟨true, (some (.tab [.int .i8, .int .i16, .fl .f32] x8))⟩], 4, [1, 2]⟩), ((Nat.beq ((r82l0 (m + 1) x0 x1 x2 x3 x4 x5 x6 x7 x8).1) 1), .exit 0, [wsl 4], ⟨[⟨true, (some (.cells [.float .f32 x2, .float .f32 x3, .float .f32 x4, .float .f32 x5]))⟩, ⟨true, none⟩, ⟨true, none⟩, ⟨true, (some (.tab [.int .i8, .int .i16, .fl .f32] x8))⟩, ⟨true, (some (.tab [.fl .f32] ((r82l0 (m + 1) x0 x1 x2 x3 x4 x5 x6 x7 x8).2)))⟩], 4, [1, 2]⟩), ((Nat.beq ((r82l0 (m + 1) x0 x1 x2 x3 x4 x5 x6 x7 x8).1) 2), .exit 0, [wsl 1], ⟨[⟨true, (some (.cells [.float .f32 x2, .float .f32 x3, .float .f32 x4, .float .f32 x5]))⟩, ⟨true, (some (.tab [.fl .f32] x6))⟩, ⟨true, (some (.tab [.fl .f32] x7))⟩, ⟨true, (some (.tab [.int .i8, .int .i16, .fl .f32] x8))⟩], 4, [1, 2]⟩)].map fun (b, x) => (b, (x.1, frameOf 95 [9] x.2.1, x.2.2))) :=
 (show evC Try.prog ext T36 noL 200 (loopN Try.f82 0) (loopTail ([2, 3, 5, 9, 10, 20, 21, 22], [10]) [9] [1, 2] (sumK 95 [2, 3, 5, 9, 10, 20, 21, 22] [9] (q82l0 m))) (frameOf 95 [2, 3, 5, 9, 10, 20, 21, 22] [.func (.func 83) #[] #[], .func (.func 84) #[] #[], .pointer (some ⟨0, 0, some 0⟩), wsl 1, wsl 2, wsl 3, .int .i64 x0, .int .i64 x1]) ⟨[⟨true, (some (.cells [.float .f32 x2, .float .f32 x3, .float .f32 x4, .float .f32 x5]))⟩, ⟨true, (some (.tab [.fl .f32] x6))⟩, ⟨true, (some (.tab [.fl .f32] x7))⟩, ⟨true, (some (.tab [.int .i8, .int .i16, .fl .f32] x8))⟩], 4, []⟩ = w82l0 (r82l0 m) x0 x1 x2 x3 x4 x5 x6 x7 x8 from by kernel_rfl).trans
 (show w82l0 (r82l0 m) x0 x1 x2 x3 x4 x5 x6 x7 x8 = a82l0 x0 x1 x2 x3 x4 x5 x6 x7 x8 (r82l0 (m + 1) x0 x1 x2 x3 x4 x5 x6 x7 x8) from by unfold w82l0; show _ = a82l0 x0 x1 x2 x3 x4 x5 x6 x7 x8 (b82l0 (r82l0 m) x0 x1 x2 x3 x4 x5 x6 x7 x8); unfold b82l0; exact (cond_both (a82l0 x0 x1 x2 x3 x4 x5 x6 x7 x8) _ (fun h0 => (cond_both (a82l0 x0 x1 x2 x3 x4 x5 x6 x7 x8) _ (fun h1 => (cond_t (ev_and2 h1) (cond_both (a82l0 x0 x1 x2 x3 x4 x5 x6 x7 x8) _ (fun h2 => (cond_app (a82l0 x0 x1 x2 x3 x4 x5 x6 x7 x8) _ (cond_app (a82l0 x0 x1 x2 x3 x4 x5 x6 x7 x8) _ rfl (cond_app (a82l0 x0 x1 x2 x3 x4 x5 x6 x7 x8) _ rfl (cond_app (a82l0 x0 x1 x2 x3 x4 x5 x6 x7 x8) _ rfl rfl))) rfl)) (fun h2 => (cond_both (a82l0 x0 x1 x2 x3 x4 x5 x6 x7 x8) _ (fun h3 => (cond_app (a82l0 x0 x1 x2 x3 x4 x5 x6 x7 x8) _ (cond_app (a82l0 x0 x1 x2 x3 x4 x5 x6 x7 x8) _ (cond_app (a82l0 x0 x1 x2 x3 x4 x5 x6 x7 x8) _ (cond_app (a82l0 x0 x1 x2 x3 x4 x5 x6 x7 x8) _ rfl (cond_app (a82l0 x0 x1 x2 x3 x4 x5 x6 x7 x8) _ rfl (cond_app (a82l0 x0 x1 x2 x3 x4 x5 x6 x7 x8) _ rfl rfl))) rfl) (cond_app (a82l0 x0 x1 x2 x3 x4 x5 x6 x7 x8) _ (cond_app (a82l0 x0 x1 x2 x3 x4 x5 x6 x7 x8) _ (cond_app (a82l0 x0 x1 x2 x3 x4 x5 x6 x7 x8) _ rfl (cond_app (a82l0 x0 x1 x2 x3 x4 x5 x6 x7 x8) _ rfl (cond_app (a82l0 x0 x1 x2 x3 x4 x5 x6 x7 x8) _ rfl rfl))) rfl) (cond_app (a82l0 x0 x1 x2 x3 x4 x5 x6 x7 x8) _ (cond_app (a82l0 x0 x1 x2 x3 x4 x5 x6 x7 x8) _ (cond_app (a82l0 x0 x1 x2 x3 x4 x5 x6 x7 x8) _ rfl (cond_app (a82l0 x0 x1 x2 x3 x4 x5 x6 x7 x8) _ rfl (cond_app (a82l0 x0 x1 x2 x3 x4 x5 x6 x7 x8) _ rfl rfl))) rfl) (cond_app (a82l0 x0 x1 x2 x3 x4 x5 x6 x7 x8) _ (cond_app (a82l0 x0 x1 x2 x3 x4 x5 x6 x7 x8) _ (cond_app (a82l0 x0 x1 x2 x3 x4 x5 x6 x7 x8) _ rfl (cond_app (a82l0 x0 x1 x2 x3 x4 x5 x6 x7 x8) _ rfl (cond_app (a82l0 x0 x1 x2 x3 x4 x5 x6 x7 x8) _ rfl rfl))) rfl) rfl)))) rfl)) (fun h3 => (cond_both (a82l0 x0 x1 x2 x3 x4 x5 x6 x7 x8) _ (fun h4 => (cond_both (a82l0 x0 x1 x2 x3 x4 x5 x6 x7 x8) _ (fun h5 => (cond_t (ev_and2 h5) (cond_app (a82l0 x0 x1 x2 x3 x4 x5 x6 x7 x8) _ (cond_app (a82l0 x0 x1 x2 x3 x4 x5 x6 x7 x8) _ rfl (cond_app (a82l0 x0 x1 x2 x3 x4 x5 x6 x7 x8) _ rfl (cond_app (a82l0 x0 x1 x2 x3 x4 x5 x6 x7 x8) _ rfl rfl))) rfl))) (fun h5 => rfl))) (fun h4 => (cond_both (a82l0 x0 x1 x2 x3 x4 x5 x6 x7 x8) _ (fun h5 => (cond_both (a82l0 x0 x1 x2 x3 x4 x5 x6 x7 x8) _ (fun h6 => (cond_both (a82l0 x0 x1 x2 x3 x4 x5 x6 x7 x8) _ (fun h7 => (cond_both (a82l0 x0 x1 x2 x3 x4 x5 x6 x7 x8) _ (fun h8 => (cond_both (a82l0 x0 x1 x2 x3 x4 x5 x6 x7 x8) _ (fun h9 => (cond_both (a82l0 x0 x1 x2 x3 x4 x5 x6 x7 x8) _ (fun h10 => (cond_t (ev_and2 h10) (cond_app (a82l0 x0 x1 x2 x3 x4 x5 x6 x7 x8) _ rfl (cond_app (a82l0 x0 x1 x2 x3 x4 x5 x6 x7 x8) _ rfl (cond_app (a82l0 x0 x1 x2 x3 x4 x5 x6 x7 x8) _ rfl rfl))))) (fun h10 => rfl))) (fun h9 => rfl))) (fun h8 => rfl))) (fun h7 => rfl))) (fun h6 => (cond_app (a82l0 x0 x1 x2 x3 x4 x5 x6 x7 x8) _ (cond_app (a82l0 x0 x1 x2 x3 x4 x5 x6 x7 x8) _ (cond_app (a82l0 x0 x1 x2 x3 x4 x5 x6 x7 x8) _ (cond_app (a82l0 x0 x1 x2 x3 x4 x5 x6 x7 x8) _ rfl (cond_app (a82l0 x0 x1 x2 x3 x4 x5 x6 x7 x8) _ rfl (cond_app (a82l0 x0 x1 x2 x3 x4 x5 x6 x7 x8) _ rfl rfl))) rfl) rfl) rfl)))) (fun h5 => rfl)))))))))) (fun h1 => rfl))) (fun h0 => rfl)))
set_option maxRecDepth 100000 in
set_option maxHeartbeats 4000000 in
theorem qm82l0 : ∀ m, SumKOk Try.prog (loopN Try.f82 0) 95 [2, 3, 5, 9, 10, 20, 21, 22] [9] (q82l0 m) := by
  intro m
  induction m with
  | zero =>
    intro vals s x h1 h2 h3
    unfold q82l0 at h3; split at h3
    · rename_i h; split at h3
      · rename_i hc; obtain ⟨rfl, rfl, rfl, rfl, rfl, rfl, rfl, rfl⟩ := hc; exact absurd h3 (by simp [r82l0, firstT, Nat.beq])
      · exact noQ_ok _ _ _ h1 h2 h3
    · exact noQ_ok _ _ _ h1 h2 h3
  | succ m ih =>
    intro vals s x h1 h2 h3
    unfold q82l0 at h3; split at h3
    · rename_i h; split at h3
      · rename_i hc; obtain ⟨rfl, rfl, rfl, rfl, rfl, rfl, rfl, rfl⟩ := hc; exact sum_step ok36 extOk mixed ((lfOkF_no _ _).inner (by kernel_rfl)) ih h1 h2 h (e82l0 m _ _ _ _ _ _ _ _ _) rfl h3
      · exact noQ_ok _ _ _ h1 h2 h3
    · exact noQ_ok _ _ _ h1 h2 h3
noncomputable def Q82l0 : SumK := fun vals s => q82l0 (fuelOf vals s.h) vals s
theorem qok82l0 : SumKOk Try.prog (loopN Try.f82 0) 95 [2, 3, 5, 9, 10, 20, 21, 22] [9] Q82l0 := fuel_ok qm82l0 fuelOf
noncomputable def L82_1 : LoopT := addL noL 4 ([2, 3, 5, 9, 10, 20, 21, 22], [10]) (sumK 95 [2, 3, 5, 9, 10, 20, 21, 22] [9] Q82l0)
theorem lok82_1 : LfOkF Try.prog L82_1 Try.f82 := lfOkF_add (lfOkF_no _ _) qok82l0 (by kernel_rfl) (by kernel_rfl) (by kernel_rfl)

/-- impl.runOn[float32] -/
noncomputable def r82 (x0 x1 x2 x3 : Nat) (x4 : List ByteArray) (x5 : List (List Int)) : Nat × List (List Int) :=
 let c51 := (r82l0 (1000 + x5.length + 0 + 0) ((x5.length : Nat) : Int) 0 x0 x1 x2 x3 ([] : List (List Int)) ([] : List (List Int)) x5)
 cond (Nat.beq (c51.1) 0)
  (0, ([] : List (List Int)))
  (cond (Nat.beq (c51.1) 1)
   (0, (c51.2))
   (cond (Nat.beq (c51.1) 2)
    (0, ([] : List (List Int)))
    (1, [])))
noncomputable def a82 (x0 x1 x2 x3 : Nat) (x4 : List ByteArray) (x5 : List (List Int)) (p : Nat × List (List Int)) : Res := firstT [((Nat.beq (p.1) 0), wsl 2, ⟨[⟨true, (some (.strs x4))⟩, ⟨true, (some (.tab [.int .i8, .int .i16, .fl .f32] x5))⟩, ⟨true, (some (.tab [.fl .f32] (p.2)))⟩], 2, []⟩)]
noncomputable def w82 (x0 x1 x2 x3 : Nat) (x4 : List ByteArray) (x5 : List (List Int)) : Res :=
 let c51 := (r82l0 (1000 + x5.length + 0 + 0) ((x5.length : Nat) : Int) 0 x0 x1 x2 x3 ([] : List (List Int)) ([] : List (List Int)) x5)
 (cond (Nat.beq (c51.1) 0)
 (a82 x0 x1 x2 x3 x4 x5 (0, ([] : List (List Int))))
 (cond (Nat.beq (c51.1) 1)
  (a82 x0 x1 x2 x3 x4 x5 (0, (c51.2)))
  (cond (Nat.beq (c51.1) 2)
   (a82 x0 x1 x2 x3 x4 x5 (0, ([] : List (List Int))))
   none)))
set_option maxRecDepth 100000 in
set_option maxHeartbeats 4000000 in
theorem e82 (x0 x1 x2 x3 : Nat) (x4 : List ByteArray) (x5 : List (List Int)) : evFn Try.prog ext T36 L82_1 200 Try.f82 [.agg #[wsl 0, wsl 1], .agg #[.float .f32 x0, .float .f32 x1, .float .f32 x2, .float .f32 x3], .func (.func 83) #[] #[], .func (.func 84) #[] #[]] ⟨[⟨true, (some (.strs x4))⟩, ⟨true, (some (.tab [.int .i8, .int .i16, .fl .f32] x5))⟩], 2, []⟩ = firstT [((Nat.beq ((r82 x0 x1 x2 x3 x4 x5).1) 0), wsl 2, ⟨[⟨true, (some (.strs x4))⟩, ⟨true, (some (.tab [.int .i8, .int .i16, .fl .f32] x5))⟩, ⟨true, (some (.tab [.fl .f32] ((r82 x0 x1 x2 x3 x4 x5).2)))⟩], 2, []⟩)] :=
 (show evFn Try.prog ext T36 L82_1 200 Try.f82 [.agg #[wsl 0, wsl 1], .agg #[.float .f32 x0, .float .f32 x1, .float .f32 x2, .float .f32 x3], .func (.func 83) #[] #[], .func (.func 84) #[] #[]] ⟨[⟨true, (some (.strs x4))⟩, ⟨true, (some (.tab [.int .i8, .int .i16, .fl .f32] x5))⟩], 2, []⟩ = w82 x0 x1 x2 x3 x4 x5 from by kernel_rfl).trans
 (show w82 x0 x1 x2 x3 x4 x5 = a82 x0 x1 x2 x3 x4 x5 (r82 x0 x1 x2 x3 x4 x5) from by unfold w82 r82; exact (cond_app (a82 x0 x1 x2 x3 x4 x5) _ rfl (cond_app (a82 x0 x1 x2 x3 x4 x5) _ rfl (cond_app (a82 x0 x1 x2 x3 x4 x5) _ rfl rfl))))
noncomputable def s82 (args : List Value) (s : St) : List (Bool × Value × St) :=
 match args, s.h with
 | [.agg ⟨[.iface f0 .nilIface, .iface f1 .nilIface]⟩, .agg ⟨[.float .f32 x0, .float .f32 x1, .float .f32 x2, .float .f32 x3]⟩, .func (.func f2) ⟨[]⟩ ⟨[]⟩, .func (.func f3) ⟨[]⟩ ⟨[]⟩], [⟨true, some (.strs x4)⟩, ⟨true, some (.tab [.int .i8, .int .i16, .fl .f32] x5)⟩] => if f0 = 0 ∧ f1 = 1 ∧ f2 = 83 ∧ f3 = 84 then [((Nat.beq ((r82 x0 x1 x2 x3 x4 x5).1) 0), wsl 2, ⟨[⟨true, (some (.strs x4))⟩, ⟨true, (some (.tab [.int .i8, .int .i16, .fl .f32] x5))⟩, ⟨true, (some (.tab [.fl .f32] ((r82 x0 x1 x2 x3 x4 x5).2)))⟩], 2, []⟩)] else T36 82 args s
 | _, _ => T36 82 args s
noncomputable def T37 : CallF := addF T36 82 s82
set_option maxRecDepth 100000 in
set_option maxHeartbeats 4000000 in
theorem ok37 : CfOk Try.prog T37 := by
  refine cfOk_add ok36 fun args s r s' h1 h2 h3 => ?_
  unfold s82 at h3; split at h3
  · rename_i h; split at h3
    · rename_i hc; obtain ⟨rfl, rfl, rfl, rfl⟩ := hc; exact callOk ok36 Try.func82 h1 h2 h lok82_1.body (e82 _ _ _ _ _ _) rfl h3
    · exact ok36 _ _ _ _ _ h1 h2 h3
  · exact ok36 _ _ _ _ _ h1 h2 h3

/-- impl.runNumbers -/
noncomputable def r57 (x0 x1 x2 x3 : Nat) (x4 : List ByteArray) (x5 : List (List Int)) : Nat × List (List Int) :=
 cond (Nat.beq ((r82 x0 x1 x2 x3 x4 x5).1) 0)
  (0, ((r82 x0 x1 x2 x3 x4 x5).2))
  (1, [])
noncomputable def a57 (x0 x1 x2 x3 : Nat) (x4 : List ByteArray) (x5 : List (List Int)) (p : Nat × List (List Int)) : Res := firstT [((Nat.beq (p.1) 0), wsl 2, ⟨[⟨true, (some (.strs x4))⟩, ⟨true, (some (.tab [.int .i8, .int .i16, .fl .f32] x5))⟩, ⟨true, (some (.tab [.fl .f32] (p.2)))⟩], 2, []⟩)]
noncomputable def w57 (x0 x1 x2 x3 : Nat) (x4 : List ByteArray) (x5 : List (List Int)) : Res :=
 (cond (Nat.beq ((r82 x0 x1 x2 x3 x4 x5).1) 0)
 (a57 x0 x1 x2 x3 x4 x5 (0, ((r82 x0 x1 x2 x3 x4 x5).2)))
 none)
set_option maxRecDepth 100000 in
set_option maxHeartbeats 4000000 in
theorem e57 (x0 x1 x2 x3 : Nat) (x4 : List ByteArray) (x5 : List (List Int)) : evFn Try.prog ext T37 noL 200 Try.f57 [.agg #[wsl 0, wsl 1], .agg #[.float .f32 x0, .float .f32 x1, .float .f32 x2, .float .f32 x3]] ⟨[⟨true, (some (.strs x4))⟩, ⟨true, (some (.tab [.int .i8, .int .i16, .fl .f32] x5))⟩], 2, []⟩ = firstT [((Nat.beq ((r57 x0 x1 x2 x3 x4 x5).1) 0), wsl 2, ⟨[⟨true, (some (.strs x4))⟩, ⟨true, (some (.tab [.int .i8, .int .i16, .fl .f32] x5))⟩, ⟨true, (some (.tab [.fl .f32] ((r57 x0 x1 x2 x3 x4 x5).2)))⟩], 2, []⟩)] :=
 (show evFn Try.prog ext T37 noL 200 Try.f57 [.agg #[wsl 0, wsl 1], .agg #[.float .f32 x0, .float .f32 x1, .float .f32 x2, .float .f32 x3]] ⟨[⟨true, (some (.strs x4))⟩, ⟨true, (some (.tab [.int .i8, .int .i16, .fl .f32] x5))⟩], 2, []⟩ = w57 x0 x1 x2 x3 x4 x5 from by kernel_rfl).trans
 (show w57 x0 x1 x2 x3 x4 x5 = a57 x0 x1 x2 x3 x4 x5 (r57 x0 x1 x2 x3 x4 x5) from by unfold w57 r57; exact (cond_app (a57 x0 x1 x2 x3 x4 x5) _ rfl rfl))
noncomputable def s57 (args : List Value) (s : St) : List (Bool × Value × St) :=
 match args, s.h with
 | [.agg ⟨[.iface f0 .nilIface, .iface f1 .nilIface]⟩, .agg ⟨[.float .f32 x0, .float .f32 x1, .float .f32 x2, .float .f32 x3]⟩], [⟨true, some (.strs x4)⟩, ⟨true, some (.tab [.int .i8, .int .i16, .fl .f32] x5)⟩] => if f0 = 0 ∧ f1 = 1 then [((Nat.beq ((r57 x0 x1 x2 x3 x4 x5).1) 0), wsl 2, ⟨[⟨true, (some (.strs x4))⟩, ⟨true, (some (.tab [.int .i8, .int .i16, .fl .f32] x5))⟩, ⟨true, (some (.tab [.fl .f32] ((r57 x0 x1 x2 x3 x4 x5).2)))⟩], 2, []⟩)] else T37 57 args s
 | _, _ => T37 57 args s
noncomputable def T38 : CallF := addF T37 57 s57
set_option maxRecDepth 100000 in
set_option maxHeartbeats 4000000 in
theorem ok38 : CfOk Try.prog T38 := by
  refine cfOk_add ok37 fun args s r s' h1 h2 h3 => ?_
  unfold s57 at h3; split at h3
  · rename_i h; split at h3
    · rename_i hc; obtain ⟨rfl, rfl⟩ := hc; exact callOk ok37 Try.func57 h1 h2 h (lfOkF_no _ _).body (e57 _ _ _ _ _ _) rfl h3
    · exact ok37 _ _ _ _ _ h1 h2 h3
  · exact ok37 _ _ _ _ _ h1 h2 h3
end Go.Proofs.Ytfclciebpnnieaa
