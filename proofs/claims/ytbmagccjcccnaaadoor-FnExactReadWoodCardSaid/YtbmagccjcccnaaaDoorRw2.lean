/- What the functions that the statements reach answer, part 2. -/
import Derived.Test.YtbmagccjcccnaaaDoorRw1
namespace Go.Proofs.YtbmagccjcccnaaaDoor
open Go.Ab
set_option maxHeartbeats 4000000
set_option maxRecDepth 100000

/-- spec.l01ReadWood -/
noncomputable def r7 (x0 : ByteArray) : Nat × Nat × Nat × Nat × Nat × Nat × Nat × Nat × Nat × Nat × Nat × Nat × Nat × Nat × Nat × Nat × Nat × Nat × Nat × Bool :=
 let c16 := (r17 (Int.toNat ((((r16 1 (((r15 x0 32).2.1).length - 1) ((r15 x0 32).2.1)).2.2).getD 0 []).getD 0 0)) (Int.toNat ((((r16 1 (((r15 x0 32).2.1).length - 1) ((r15 x0 32).2.1)).2.2).getD 3 []).getD 0 0)) (Int.toNat ((((r16 1 (((r15 x0 32).2.1).length - 1) ((r15 x0 32).2.1)).2.2).getD 6 []).getD 0 0)) (Int.toNat ((((r16 1 (((r15 x0 32).2.1).length - 1) ((r15 x0 32).2.1)).2.2).getD 9 []).getD 0 0)) (Int.toNat ((((r16 1 (((r15 x0 32).2.1).length - 1) ((r15 x0 32).2.1)).2.2).getD 12 []).getD 0 0)) (Int.toNat ((((r16 1 (((r15 x0 32).2.1).length - 1) ((r15 x0 32).2.1)).2.2).getD 15 []).getD 0 0)) (Int.toNat ((((r16 1 (((r15 x0 32).2.1).length - 1) ((r15 x0 32).2.1)).2.2).getD 1 []).getD 0 0)) (Int.toNat ((((r16 1 (((r15 x0 32).2.1).length - 1) ((r15 x0 32).2.1)).2.2).getD 4 []).getD 0 0)) (Int.toNat ((((r16 1 (((r15 x0 32).2.1).length - 1) ((r15 x0 32).2.1)).2.2).getD 7 []).getD 0 0)) (Int.toNat ((((r16 1 (((r15 x0 32).2.1).length - 1) ((r15 x0 32).2.1)).2.2).getD 10 []).getD 0 0)) (Int.toNat ((((r16 1 (((r15 x0 32).2.1).length - 1) ((r15 x0 32).2.1)).2.2).getD 13 []).getD 0 0)) (Int.toNat ((((r16 1 (((r15 x0 32).2.1).length - 1) ((r15 x0 32).2.1)).2.2).getD 16 []).getD 0 0)) (Int.toNat ((((r16 1 (((r15 x0 32).2.1).length - 1) ((r15 x0 32).2.1)).2.2).getD 2 []).getD 0 0)) (Int.toNat ((((r16 1 (((r15 x0 32).2.1).length - 1) ((r15 x0 32).2.1)).2.2).getD 5 []).getD 0 0)) (Int.toNat ((((r16 1 (((r15 x0 32).2.1).length - 1) ((r15 x0 32).2.1)).2.2).getD 8 []).getD 0 0)) (Int.toNat ((((r16 1 (((r15 x0 32).2.1).length - 1) ((r15 x0 32).2.1)).2.2).getD 11 []).getD 0 0)) (Int.toNat ((((r16 1 (((r15 x0 32).2.1).length - 1) ((r15 x0 32).2.1)).2.2).getD 14 []).getD 0 0)) (Int.toNat ((((r16 1 (((r15 x0 32).2.1).length - 1) ((r15 x0 32).2.1)).2.2).getD 17 []).getD 0 0)))
 cond (Nat.beq ((r15 x0 32).1) 0)
  (cond (Nat.blt 0 (((r15 x0 32).2.1).length))
   (cond (!((((r15 x0 32).2.1).getD 0 .empty).toList == (ByteArray.mk #[108, 111, 103]).toList))
    (0, 0, 0, 0, 0, 0, 0, 0, 0, 0, 0, 0, 0, 0, 0, 0, 0, 0, 0, false)
    (cond ((((((r15 x0 32).2.1).length : Nat) : Int) : Int) != 19)
     (0, 0, 0, 0, 0, 0, 0, 0, 0, 0, 0, 0, 0, 0, 0, 0, 0, 0, 0, false)
     (cond ((Nat.ble 1 (((r15 x0 32).2.1).length)) && (Nat.ble (((r15 x0 32).2.1).length) (((r15 x0 32).2.1).length)))
      (cond (Nat.beq ((r16 1 (((r15 x0 32).2.1).length - 1) ((r15 x0 32).2.1)).1) 0)
       (cond (!((r16 1 (((r15 x0 32).2.1).length - 1) ((r15 x0 32).2.1)).2.1))
        (0, 0, 0, 0, 0, 0, 0, 0, 0, 0, 0, 0, 0, 0, 0, 0, 0, 0, 0, false)
        (cond (Nat.blt 0 (((r16 1 (((r15 x0 32).2.1).length - 1) ((r15 x0 32).2.1)).2.2).length))
         (cond (Nat.blt 1 (((r16 1 (((r15 x0 32).2.1).length - 1) ((r15 x0 32).2.1)).2.2).length))
          (cond (Nat.blt 2 (((r16 1 (((r15 x0 32).2.1).length - 1) ((r15 x0 32).2.1)).2.2).length))
           (cond (Nat.blt 3 (((r16 1 (((r15 x0 32).2.1).length - 1) ((r15 x0 32).2.1)).2.2).length))
            (cond (Nat.blt 4 (((r16 1 (((r15 x0 32).2.1).length - 1) ((r15 x0 32).2.1)).2.2).length))
             (cond (Nat.blt 5 (((r16 1 (((r15 x0 32).2.1).length - 1) ((r15 x0 32).2.1)).2.2).length))
              (cond (Nat.blt 6 (((r16 1 (((r15 x0 32).2.1).length - 1) ((r15 x0 32).2.1)).2.2).length))
               (cond (Nat.blt 7 (((r16 1 (((r15 x0 32).2.1).length - 1) ((r15 x0 32).2.1)).2.2).length))
                (cond (Nat.blt 8 (((r16 1 (((r15 x0 32).2.1).length - 1) ((r15 x0 32).2.1)).2.2).length))
                 (cond (Nat.blt 9 (((r16 1 (((r15 x0 32).2.1).length - 1) ((r15 x0 32).2.1)).2.2).length))
                  (cond (Nat.blt 10 (((r16 1 (((r15 x0 32).2.1).length - 1) ((r15 x0 32).2.1)).2.2).length))
                   (cond (Nat.blt 11 (((r16 1 (((r15 x0 32).2.1).length - 1) ((r15 x0 32).2.1)).2.2).length))
                    (cond (Nat.blt 12 (((r16 1 (((r15 x0 32).2.1).length - 1) ((r15 x0 32).2.1)).2.2).length))
                     (cond (Nat.blt 13 (((r16 1 (((r15 x0 32).2.1).length - 1) ((r15 x0 32).2.1)).2.2).length))
                      (cond (Nat.blt 14 (((r16 1 (((r15 x0 32).2.1).length - 1) ((r15 x0 32).2.1)).2.2).length))
                       (cond (Nat.blt 15 (((r16 1 (((r15 x0 32).2.1).length - 1) ((r15 x0 32).2.1)).2.2).length))
                        (cond (Nat.blt 16 (((r16 1 (((r15 x0 32).2.1).length - 1) ((r15 x0 32).2.1)).2.2).length))
                         (cond (Nat.blt 17 (((r16 1 (((r15 x0 32).2.1).length - 1) ((r15 x0 32).2.1)).2.2).length))
                          (0, (Int.toNat ((((r16 1 (((r15 x0 32).2.1).length - 1) ((r15 x0 32).2.1)).2.2).getD 0 []).getD 0 0)), (Int.toNat ((((r16 1 (((r15 x0 32).2.1).length - 1) ((r15 x0 32).2.1)).2.2).getD 3 []).getD 0 0)), (Int.toNat ((((r16 1 (((r15 x0 32).2.1).length - 1) ((r15 x0 32).2.1)).2.2).getD 6 []).getD 0 0)), (Int.toNat ((((r16 1 (((r15 x0 32).2.1).length - 1) ((r15 x0 32).2.1)).2.2).getD 9 []).getD 0 0)), (Int.toNat ((((r16 1 (((r15 x0 32).2.1).length - 1) ((r15 x0 32).2.1)).2.2).getD 12 []).getD 0 0)), (Int.toNat ((((r16 1 (((r15 x0 32).2.1).length - 1) ((r15 x0 32).2.1)).2.2).getD 15 []).getD 0 0)), (Int.toNat ((((r16 1 (((r15 x0 32).2.1).length - 1) ((r15 x0 32).2.1)).2.2).getD 1 []).getD 0 0)), (Int.toNat ((((r16 1 (((r15 x0 32).2.1).length - 1) ((r15 x0 32).2.1)).2.2).getD 4 []).getD 0 0)), (Int.toNat ((((r16 1 (((r15 x0 32).2.1).length - 1) ((r15 x0 32).2.1)).2.2).getD 7 []).getD 0 0)), (Int.toNat ((((r16 1 (((r15 x0 32).2.1).length - 1) ((r15 x0 32).2.1)).2.2).getD 10 []).getD 0 0)), (Int.toNat ((((r16 1 (((r15 x0 32).2.1).length - 1) ((r15 x0 32).2.1)).2.2).getD 13 []).getD 0 0)), (Int.toNat ((((r16 1 (((r15 x0 32).2.1).length - 1) ((r15 x0 32).2.1)).2.2).getD 16 []).getD 0 0)), (Int.toNat ((((r16 1 (((r15 x0 32).2.1).length - 1) ((r15 x0 32).2.1)).2.2).getD 2 []).getD 0 0)), (Int.toNat ((((r16 1 (((r15 x0 32).2.1).length - 1) ((r15 x0 32).2.1)).2.2).getD 5 []).getD 0 0)), (Int.toNat ((((r16 1 (((r15 x0 32).2.1).length - 1) ((r15 x0 32).2.1)).2.2).getD 8 []).getD 0 0)), (Int.toNat ((((r16 1 (((r15 x0 32).2.1).length - 1) ((r15 x0 32).2.1)).2.2).getD 11 []).getD 0 0)), (Int.toNat ((((r16 1 (((r15 x0 32).2.1).length - 1) ((r15 x0 32).2.1)).2.2).getD 14 []).getD 0 0)), (Int.toNat ((((r16 1 (((r15 x0 32).2.1).length - 1) ((r15 x0 32).2.1)).2.2).getD 17 []).getD 0 0)), c16)
                          (1, 0, 0, 0, 0, 0, 0, 0, 0, 0, 0, 0, 0, 0, 0, 0, 0, 0, 0, false))
                         (1, 0, 0, 0, 0, 0, 0, 0, 0, 0, 0, 0, 0, 0, 0, 0, 0, 0, 0, false))
                        (1, 0, 0, 0, 0, 0, 0, 0, 0, 0, 0, 0, 0, 0, 0, 0, 0, 0, 0, false))
                       (1, 0, 0, 0, 0, 0, 0, 0, 0, 0, 0, 0, 0, 0, 0, 0, 0, 0, 0, false))
                      (1, 0, 0, 0, 0, 0, 0, 0, 0, 0, 0, 0, 0, 0, 0, 0, 0, 0, 0, false))
                     (1, 0, 0, 0, 0, 0, 0, 0, 0, 0, 0, 0, 0, 0, 0, 0, 0, 0, 0, false))
                    (1, 0, 0, 0, 0, 0, 0, 0, 0, 0, 0, 0, 0, 0, 0, 0, 0, 0, 0, false))
                   (1, 0, 0, 0, 0, 0, 0, 0, 0, 0, 0, 0, 0, 0, 0, 0, 0, 0, 0, false))
                  (1, 0, 0, 0, 0, 0, 0, 0, 0, 0, 0, 0, 0, 0, 0, 0, 0, 0, 0, false))
                 (1, 0, 0, 0, 0, 0, 0, 0, 0, 0, 0, 0, 0, 0, 0, 0, 0, 0, 0, false))
                (1, 0, 0, 0, 0, 0, 0, 0, 0, 0, 0, 0, 0, 0, 0, 0, 0, 0, 0, false))
               (1, 0, 0, 0, 0, 0, 0, 0, 0, 0, 0, 0, 0, 0, 0, 0, 0, 0, 0, false))
              (1, 0, 0, 0, 0, 0, 0, 0, 0, 0, 0, 0, 0, 0, 0, 0, 0, 0, 0, false))
             (1, 0, 0, 0, 0, 0, 0, 0, 0, 0, 0, 0, 0, 0, 0, 0, 0, 0, 0, false))
            (1, 0, 0, 0, 0, 0, 0, 0, 0, 0, 0, 0, 0, 0, 0, 0, 0, 0, 0, false))
           (1, 0, 0, 0, 0, 0, 0, 0, 0, 0, 0, 0, 0, 0, 0, 0, 0, 0, 0, false))
          (1, 0, 0, 0, 0, 0, 0, 0, 0, 0, 0, 0, 0, 0, 0, 0, 0, 0, 0, false))
         (1, 0, 0, 0, 0, 0, 0, 0, 0, 0, 0, 0, 0, 0, 0, 0, 0, 0, 0, false)))
       (1, 0, 0, 0, 0, 0, 0, 0, 0, 0, 0, 0, 0, 0, 0, 0, 0, 0, 0, false))
      (1, 0, 0, 0, 0, 0, 0, 0, 0, 0, 0, 0, 0, 0, 0, 0, 0, 0, 0, false))))
   (1, 0, 0, 0, 0, 0, 0, 0, 0, 0, 0, 0, 0, 0, 0, 0, 0, 0, 0, false))
  (cond (Nat.beq ((r15 x0 32).1) 1)
   (cond (!(((r15 x0 32).2.2).toList == (ByteArray.mk #[108, 111, 103]).toList))
    (0, 0, 0, 0, 0, 0, 0, 0, 0, 0, 0, 0, 0, 0, 0, 0, 0, 0, 0, false)
    (0, 0, 0, 0, 0, 0, 0, 0, 0, 0, 0, 0, 0, 0, 0, 0, 0, 0, 0, false))
   (1, 0, 0, 0, 0, 0, 0, 0, 0, 0, 0, 0, 0, 0, 0, 0, 0, 0, 0, false))
noncomputable def a7 (x0 : ByteArray) (p : Nat × Nat × Nat × Nat × Nat × Nat × Nat × Nat × Nat × Nat × Nat × Nat × Nat × Nat × Nat × Nat × Nat × Nat × Nat × Bool) : Res := firstT [((Nat.beq (p.1) 0), .tuple #[.agg #[.float .f32 (p.2.1), .float .f32 (p.2.2.1), .float .f32 (p.2.2.2.1), .float .f32 (p.2.2.2.2.1), .float .f32 (p.2.2.2.2.2.1), .float .f32 (p.2.2.2.2.2.2.1), .float .f32 (p.2.2.2.2.2.2.2.1), .float .f32 (p.2.2.2.2.2.2.2.2.1), .float .f32 (p.2.2.2.2.2.2.2.2.2.1), .float .f32 (p.2.2.2.2.2.2.2.2.2.2.1), .float .f32 (p.2.2.2.2.2.2.2.2.2.2.2.1), .float .f32 (p.2.2.2.2.2.2.2.2.2.2.2.2.1), .float .f32 (p.2.2.2.2.2.2.2.2.2.2.2.2.2.1), .float .f32 (p.2.2.2.2.2.2.2.2.2.2.2.2.2.2.1), .float .f32 (p.2.2.2.2.2.2.2.2.2.2.2.2.2.2.2.1), .float .f32 (p.2.2.2.2.2.2.2.2.2.2.2.2.2.2.2.2.1), .float .f32 (p.2.2.2.2.2.2.2.2.2.2.2.2.2.2.2.2.2.1), .float .f32 (p.2.2.2.2.2.2.2.2.2.2.2.2.2.2.2.2.2.2.1)], .bool (p.2.2.2.2.2.2.2.2.2.2.2.2.2.2.2.2.2.2.2)], st0)]
noncomputable def w7 (x0 : ByteArray) : Res :=
 let c16 := (r17 (Int.toNat ((((r16 1 (((r15 x0 32).2.1).length - 1) ((r15 x0 32).2.1)).2.2).getD 0 []).getD 0 0)) (Int.toNat ((((r16 1 (((r15 x0 32).2.1).length - 1) ((r15 x0 32).2.1)).2.2).getD 3 []).getD 0 0)) (Int.toNat ((((r16 1 (((r15 x0 32).2.1).length - 1) ((r15 x0 32).2.1)).2.2).getD 6 []).getD 0 0)) (Int.toNat ((((r16 1 (((r15 x0 32).2.1).length - 1) ((r15 x0 32).2.1)).2.2).getD 9 []).getD 0 0)) (Int.toNat ((((r16 1 (((r15 x0 32).2.1).length - 1) ((r15 x0 32).2.1)).2.2).getD 12 []).getD 0 0)) (Int.toNat ((((r16 1 (((r15 x0 32).2.1).length - 1) ((r15 x0 32).2.1)).2.2).getD 15 []).getD 0 0)) (Int.toNat ((((r16 1 (((r15 x0 32).2.1).length - 1) ((r15 x0 32).2.1)).2.2).getD 1 []).getD 0 0)) (Int.toNat ((((r16 1 (((r15 x0 32).2.1).length - 1) ((r15 x0 32).2.1)).2.2).getD 4 []).getD 0 0)) (Int.toNat ((((r16 1 (((r15 x0 32).2.1).length - 1) ((r15 x0 32).2.1)).2.2).getD 7 []).getD 0 0)) (Int.toNat ((((r16 1 (((r15 x0 32).2.1).length - 1) ((r15 x0 32).2.1)).2.2).getD 10 []).getD 0 0)) (Int.toNat ((((r16 1 (((r15 x0 32).2.1).length - 1) ((r15 x0 32).2.1)).2.2).getD 13 []).getD 0 0)) (Int.toNat ((((r16 1 (((r15 x0 32).2.1).length - 1) ((r15 x0 32).2.1)).2.2).getD 16 []).getD 0 0)) (Int.toNat ((((r16 1 (((r15 x0 32).2.1).length - 1) ((r15 x0 32).2.1)).2.2).getD 2 []).getD 0 0)) (Int.toNat ((((r16 1 (((r15 x0 32).2.1).length - 1) ((r15 x0 32).2.1)).2.2).getD 5 []).getD 0 0)) (Int.toNat ((((r16 1 (((r15 x0 32).2.1).length - 1) ((r15 x0 32).2.1)).2.2).getD 8 []).getD 0 0)) (Int.toNat ((((r16 1 (((r15 x0 32).2.1).length - 1) ((r15 x0 32).2.1)).2.2).getD 11 []).getD 0 0)) (Int.toNat ((((r16 1 (((r15 x0 32).2.1).length - 1) ((r15 x0 32).2.1)).2.2).getD 14 []).getD 0 0)) (Int.toNat ((((r16 1 (((r15 x0 32).2.1).length - 1) ((r15 x0 32).2.1)).2.2).getD 17 []).getD 0 0)))
 (cond (Nat.beq ((r15 x0 32).1) 0)
 (cond (Nat.blt 0 (((r15 x0 32).2.1).length))
  (cond (Nat.blt 0 (((r15 x0 32).2.1).length))
   (cond (!((((r15 x0 32).2.1).getD 0 .empty).toList == (ByteArray.mk #[108, 111, 103]).toList))
    (a7 x0 (0, 0, 0, 0, 0, 0, 0, 0, 0, 0, 0, 0, 0, 0, 0, 0, 0, 0, 0, false))
    (cond ((((((r15 x0 32).2.1).length : Nat) : Int) : Int) != 19)
     (a7 x0 (0, 0, 0, 0, 0, 0, 0, 0, 0, 0, 0, 0, 0, 0, 0, 0, 0, 0, 0, false))
     (cond ((Nat.ble 1 (((r15 x0 32).2.1).length)) && (Nat.ble (((r15 x0 32).2.1).length) (((r15 x0 32).2.1).length)))
      (cond (Nat.beq ((r16 1 (((r15 x0 32).2.1).length - 1) ((r15 x0 32).2.1)).1) 0)
       (cond (!((r16 1 (((r15 x0 32).2.1).length - 1) ((r15 x0 32).2.1)).2.1))
        (a7 x0 (0, 0, 0, 0, 0, 0, 0, 0, 0, 0, 0, 0, 0, 0, 0, 0, 0, 0, 0, false))
        (cond (Nat.blt 0 (((r16 1 (((r15 x0 32).2.1).length - 1) ((r15 x0 32).2.1)).2.2).length))
         (cond (Nat.blt 0 (((r16 1 (((r15 x0 32).2.1).length - 1) ((r15 x0 32).2.1)).2.2).length))
          (cond (Nat.blt 1 (((r16 1 (((r15 x0 32).2.1).length - 1) ((r15 x0 32).2.1)).2.2).length))
           (cond (Nat.blt 1 (((r16 1 (((r15 x0 32).2.1).length - 1) ((r15 x0 32).2.1)).2.2).length))
            (cond (Nat.blt 2 (((r16 1 (((r15 x0 32).2.1).length - 1) ((r15 x0 32).2.1)).2.2).length))
             (cond (Nat.blt 2 (((r16 1 (((r15 x0 32).2.1).length - 1) ((r15 x0 32).2.1)).2.2).length))
              (cond (Nat.blt 3 (((r16 1 (((r15 x0 32).2.1).length - 1) ((r15 x0 32).2.1)).2.2).length))
               (cond (Nat.blt 3 (((r16 1 (((r15 x0 32).2.1).length - 1) ((r15 x0 32).2.1)).2.2).length))
                (cond (Nat.blt 4 (((r16 1 (((r15 x0 32).2.1).length - 1) ((r15 x0 32).2.1)).2.2).length))
                 (cond (Nat.blt 4 (((r16 1 (((r15 x0 32).2.1).length - 1) ((r15 x0 32).2.1)).2.2).length))
                  (cond (Nat.blt 5 (((r16 1 (((r15 x0 32).2.1).length - 1) ((r15 x0 32).2.1)).2.2).length))
                   (cond (Nat.blt 5 (((r16 1 (((r15 x0 32).2.1).length - 1) ((r15 x0 32).2.1)).2.2).length))
                    (cond (Nat.blt 6 (((r16 1 (((r15 x0 32).2.1).length - 1) ((r15 x0 32).2.1)).2.2).length))
                     (cond (Nat.blt 6 (((r16 1 (((r15 x0 32).2.1).length - 1) ((r15 x0 32).2.1)).2.2).length))
                      (cond (Nat.blt 7 (((r16 1 (((r15 x0 32).2.1).length - 1) ((r15 x0 32).2.1)).2.2).length))
                       (cond (Nat.blt 7 (((r16 1 (((r15 x0 32).2.1).length - 1) ((r15 x0 32).2.1)).2.2).length))
                        (cond (Nat.blt 8 (((r16 1 (((r15 x0 32).2.1).length - 1) ((r15 x0 32).2.1)).2.2).length))
                         (cond (Nat.blt 8 (((r16 1 (((r15 x0 32).2.1).length - 1) ((r15 x0 32).2.1)).2.2).length))
                          (cond (Nat.blt 9 (((r16 1 (((r15 x0 32).2.1).length - 1) ((r15 x0 32).2.1)).2.2).length))
                           (cond (Nat.blt 9 (((r16 1 (((r15 x0 32).2.1).length - 1) ((r15 x0 32).2.1)).2.2).length))
                            (cond (Nat.blt 10 (((r16 1 (((r15 x0 32).2.1).length - 1) ((r15 x0 32).2.1)).2.2).length))
                             (cond (Nat.blt 10 (((r16 1 (((r15 x0 32).2.1).length - 1) ((r15 x0 32).2.1)).2.2).length))
                              (cond (Nat.blt 11 (((r16 1 (((r15 x0 32).2.1).length - 1) ((r15 x0 32).2.1)).2.2).length))
                               (cond (Nat.blt 11 (((r16 1 (((r15 x0 32).2.1).length - 1) ((r15 x0 32).2.1)).2.2).length))
                                (cond (Nat.blt 12 (((r16 1 (((r15 x0 32).2.1).length - 1) ((r15 x0 32).2.1)).2.2).length))
                                 (cond (Nat.blt 12 (((r16 1 (((r15 x0 32).2.1).length - 1) ((r15 x0 32).2.1)).2.2).length))
                                  (cond (Nat.blt 13 (((r16 1 (((r15 x0 32).2.1).length - 1) ((r15 x0 32).2.1)).2.2).length))
                                   (cond (Nat.blt 13 (((r16 1 (((r15 x0 32).2.1).length - 1) ((r15 x0 32).2.1)).2.2).length))
                                    (cond (Nat.blt 14 (((r16 1 (((r15 x0 32).2.1).length - 1) ((r15 x0 32).2.1)).2.2).length))
                                     (cond (Nat.blt 14 (((r16 1 (((r15 x0 32).2.1).length - 1) ((r15 x0 32).2.1)).2.2).length))
                                      (cond (Nat.blt 15 (((r16 1 (((r15 x0 32).2.1).length - 1) ((r15 x0 32).2.1)).2.2).length))
                                       (cond (Nat.blt 15 (((r16 1 (((r15 x0 32).2.1).length - 1) ((r15 x0 32).2.1)).2.2).length))
                                        (cond (Nat.blt 16 (((r16 1 (((r15 x0 32).2.1).length - 1) ((r15 x0 32).2.1)).2.2).length))
                                         (cond (Nat.blt 16 (((r16 1 (((r15 x0 32).2.1).length - 1) ((r15 x0 32).2.1)).2.2).length))
                                          (cond (Nat.blt 17 (((r16 1 (((r15 x0 32).2.1).length - 1) ((r15 x0 32).2.1)).2.2).length))
                                           (cond (Nat.blt 17 (((r16 1 (((r15 x0 32).2.1).length - 1) ((r15 x0 32).2.1)).2.2).length))
                                            (a7 x0 (0, (Int.toNat ((((r16 1 (((r15 x0 32).2.1).length - 1) ((r15 x0 32).2.1)).2.2).getD 0 []).getD 0 0)), (Int.toNat ((((r16 1 (((r15 x0 32).2.1).length - 1) ((r15 x0 32).2.1)).2.2).getD 3 []).getD 0 0)), (Int.toNat ((((r16 1 (((r15 x0 32).2.1).length - 1) ((r15 x0 32).2.1)).2.2).getD 6 []).getD 0 0)), (Int.toNat ((((r16 1 (((r15 x0 32).2.1).length - 1) ((r15 x0 32).2.1)).2.2).getD 9 []).getD 0 0)), (Int.toNat ((((r16 1 (((r15 x0 32).2.1).length - 1) ((r15 x0 32).2.1)).2.2).getD 12 []).getD 0 0)), (Int.toNat ((((r16 1 (((r15 x0 32).2.1).length - 1) ((r15 x0 32).2.1)).2.2).getD 15 []).getD 0 0)), (Int.toNat ((((r16 1 (((r15 x0 32).2.1).length - 1) ((r15 x0 32).2.1)).2.2).getD 1 []).getD 0 0)), (Int.toNat ((((r16 1 (((r15 x0 32).2.1).length - 1) ((r15 x0 32).2.1)).2.2).getD 4 []).getD 0 0)), (Int.toNat ((((r16 1 (((r15 x0 32).2.1).length - 1) ((r15 x0 32).2.1)).2.2).getD 7 []).getD 0 0)), (Int.toNat ((((r16 1 (((r15 x0 32).2.1).length - 1) ((r15 x0 32).2.1)).2.2).getD 10 []).getD 0 0)), (Int.toNat ((((r16 1 (((r15 x0 32).2.1).length - 1) ((r15 x0 32).2.1)).2.2).getD 13 []).getD 0 0)), (Int.toNat ((((r16 1 (((r15 x0 32).2.1).length - 1) ((r15 x0 32).2.1)).2.2).getD 16 []).getD 0 0)), (Int.toNat ((((r16 1 (((r15 x0 32).2.1).length - 1) ((r15 x0 32).2.1)).2.2).getD 2 []).getD 0 0)), (Int.toNat ((((r16 1 (((r15 x0 32).2.1).length - 1) ((r15 x0 32).2.1)).2.2).getD 5 []).getD 0 0)), (Int.toNat ((((r16 1 (((r15 x0 32).2.1).length - 1) ((r15 x0 32).2.1)).2.2).getD 8 []).getD 0 0)), (Int.toNat ((((r16 1 (((r15 x0 32).2.1).length - 1) ((r15 x0 32).2.1)).2.2).getD 11 []).getD 0 0)), (Int.toNat ((((r16 1 (((r15 x0 32).2.1).length - 1) ((r15 x0 32).2.1)).2.2).getD 14 []).getD 0 0)), (Int.toNat ((((r16 1 (((r15 x0 32).2.1).length - 1) ((r15 x0 32).2.1)).2.2).getD 17 []).getD 0 0)), c16))
                                            none)
                                           none)
                                          none)
                                         none)
                                        none)
                                       none)
                                      none)
                                     none)
                                    none)
                                   none)
                                  none)
                                 none)
                                none)
                               none)
                              none)
                             none)
                            none)
                           none)
                          none)
                         none)
                        none)
                       none)
                      none)
                     none)
                    none)
                   none)
                  none)
                 none)
                none)
               none)
              none)
             none)
            none)
           none)
          none)
         none))
       none)
      none)))
   none)
  none)
 (cond (Nat.beq ((r15 x0 32).1) 1)
  (cond (!(((r15 x0 32).2.2).toList == (ByteArray.mk #[108, 111, 103]).toList))
   (a7 x0 (0, 0, 0, 0, 0, 0, 0, 0, 0, 0, 0, 0, 0, 0, 0, 0, 0, 0, 0, false))
   (a7 x0 (0, 0, 0, 0, 0, 0, 0, 0, 0, 0, 0, 0, 0, 0, 0, 0, 0, 0, 0, false)))
  none))
set_option maxRecDepth 100000 in
set_option maxHeartbeats 4000000 in
theorem e7 (x0 : ByteArray) : evFn Tryd.prog ext T7 noL 200 Tryd.f7 [.string x0] st0 = firstT [((Nat.beq ((r7 x0).1) 0), .tuple #[.agg #[.float .f32 ((r7 x0).2.1), .float .f32 ((r7 x0).2.2.1), .float .f32 ((r7 x0).2.2.2.1), .float .f32 ((r7 x0).2.2.2.2.1), .float .f32 ((r7 x0).2.2.2.2.2.1), .float .f32 ((r7 x0).2.2.2.2.2.2.1), .float .f32 ((r7 x0).2.2.2.2.2.2.2.1), .float .f32 ((r7 x0).2.2.2.2.2.2.2.2.1), .float .f32 ((r7 x0).2.2.2.2.2.2.2.2.2.1), .float .f32 ((r7 x0).2.2.2.2.2.2.2.2.2.2.1), .float .f32 ((r7 x0).2.2.2.2.2.2.2.2.2.2.2.1), .float .f32 ((r7 x0).2.2.2.2.2.2.2.2.2.2.2.2.1), .float .f32 ((r7 x0).2.2.2.2.2.2.2.2.2.2.2.2.2.1), .float .f32 ((r7 x0).2.2.2.2.2.2.2.2.2.2.2.2.2.2.1), .float .f32 ((r7 x0).2.2.2.2.2.2.2.2.2.2.2.2.2.2.2.1), .float .f32 ((r7 x0).2.2.2.2.2.2.2.2.2.2.2.2.2.2.2.2.1), .float .f32 ((r7 x0).2.2.2.2.2.2.2.2.2.2.2.2.2.2.2.2.2.1), .float .f32 ((r7 x0).2.2.2.2.2.2.2.2.2.2.2.2.2.2.2.2.2.2.1)], .bool ((r7 x0).2.2.2.2.2.2.2.2.2.2.2.2.2.2.2.2.2.2.2)], st0)] :=
 (show evFn Tryd.prog ext T7 noL 200 Tryd.f7 [.string x0] st0 = w7 x0 from by kernel_rfl).trans
 (show w7 x0 = a7 x0 (r7 x0) from by unfold w7 r7; exact (cond_both (a7 x0) _ (fun h0 => (cond_both (a7 x0) _ (fun h1 => (cond_t h1 (cond_both (a7 x0) _ (fun h2 => rfl) (fun h2 => (cond_both (a7 x0) _ (fun h3 => rfl) (fun h3 => (cond_both (a7 x0) _ (fun h4 => (cond_both (a7 x0) _ (fun h5 => (cond_both (a7 x0) _ (fun h6 => rfl) (fun h6 => (cond_both (a7 x0) _ (fun h7 => (cond_t h7 (cond_both (a7 x0) _ (fun h8 => (cond_t h8 (cond_both (a7 x0) _ (fun h9 => (cond_t h9 (cond_both (a7 x0) _ (fun h10 => (cond_t h10 (cond_both (a7 x0) _ (fun h11 => (cond_t h11 (cond_both (a7 x0) _ (fun h12 => (cond_t h12 (cond_both (a7 x0) _ (fun h13 => (cond_t h13 (cond_both (a7 x0) _ (fun h14 => (cond_t h14 (cond_both (a7 x0) _ (fun h15 => (cond_t h15 (cond_both (a7 x0) _ (fun h16 => (cond_t h16 (cond_both (a7 x0) _ (fun h17 => (cond_t h17 (cond_both (a7 x0) _ (fun h18 => (cond_t h18 (cond_both (a7 x0) _ (fun h19 => (cond_t h19 (cond_both (a7 x0) _ (fun h20 => (cond_t h20 (cond_both (a7 x0) _ (fun h21 => (cond_t h21 (cond_both (a7 x0) _ (fun h22 => (cond_t h22 (cond_both (a7 x0) _ (fun h23 => (cond_t h23 (cond_both (a7 x0) _ (fun h24 => (cond_t h24 rfl)) (fun h24 => rfl)))) (fun h23 => rfl)))) (fun h22 => rfl)))) (fun h21 => rfl)))) (fun h20 => rfl)))) (fun h19 => rfl)))) (fun h18 => rfl)))) (fun h17 => rfl)))) (fun h16 => rfl)))) (fun h15 => rfl)))) (fun h14 => rfl)))) (fun h13 => rfl)))) (fun h12 => rfl)))) (fun h11 => rfl)))) (fun h10 => rfl)))) (fun h9 => rfl)))) (fun h8 => rfl)))) (fun h7 => rfl))))) (fun h5 => rfl))) (fun h4 => rfl)))))))) (fun h1 => rfl))) (fun h0 => (cond_app (a7 x0) _ (cond_app (a7 x0) _ rfl rfl) rfl))))
noncomputable def s7 (args : List Value) (s : St) : List (Bool × Value × St) :=
 match args, s.h with
 | [.string x0], [] => [((Nat.beq ((r7 x0).1) 0), .tuple #[.agg #[.float .f32 ((r7 x0).2.1), .float .f32 ((r7 x0).2.2.1), .float .f32 ((r7 x0).2.2.2.1), .float .f32 ((r7 x0).2.2.2.2.1), .float .f32 ((r7 x0).2.2.2.2.2.1), .float .f32 ((r7 x0).2.2.2.2.2.2.1), .float .f32 ((r7 x0).2.2.2.2.2.2.2.1), .float .f32 ((r7 x0).2.2.2.2.2.2.2.2.1), .float .f32 ((r7 x0).2.2.2.2.2.2.2.2.2.1), .float .f32 ((r7 x0).2.2.2.2.2.2.2.2.2.2.1), .float .f32 ((r7 x0).2.2.2.2.2.2.2.2.2.2.2.1), .float .f32 ((r7 x0).2.2.2.2.2.2.2.2.2.2.2.2.1), .float .f32 ((r7 x0).2.2.2.2.2.2.2.2.2.2.2.2.2.1), .float .f32 ((r7 x0).2.2.2.2.2.2.2.2.2.2.2.2.2.2.1), .float .f32 ((r7 x0).2.2.2.2.2.2.2.2.2.2.2.2.2.2.2.1), .float .f32 ((r7 x0).2.2.2.2.2.2.2.2.2.2.2.2.2.2.2.2.1), .float .f32 ((r7 x0).2.2.2.2.2.2.2.2.2.2.2.2.2.2.2.2.2.1), .float .f32 ((r7 x0).2.2.2.2.2.2.2.2.2.2.2.2.2.2.2.2.2.2.1)], .bool ((r7 x0).2.2.2.2.2.2.2.2.2.2.2.2.2.2.2.2.2.2.2)], st0)]
 | _, _ => T7 7 args s
noncomputable def T8 : CallF := addF T7 7 s7
set_option maxRecDepth 100000 in
set_option maxHeartbeats 4000000 in
theorem ok8 : CfOk Tryd.prog T8 := by
  refine cfOk_add ok7 fun args s r s' h1 h2 h3 => ?_
  unfold s7 at h3; split at h3
  · rename_i h; exact callOk ok7 Tryd.func7 h1 h2 h (lfOkF_no _ _).body (e7 _) rfl h3
  · exact ok7 _ _ _ _ _ h1 h2 h3

/-- spec.ReadWood -/
noncomputable def r4 (x0 : ByteArray) : Nat × Nat × Nat × Nat × Nat × Nat × Nat × Nat × Nat × Nat × Nat × Nat × Nat × Nat × Nat × Nat × Nat × Nat × Nat × Int :=
 cond (Nat.beq ((r7 x0).1) 0)
  (cond (!((r7 x0).2.2.2.2.2.2.2.2.2.2.2.2.2.2.2.2.2.2.2))
   (0, 0, 0, 0, 0, 0, 0, 0, 0, 0, 0, 0, 0, 0, 0, 0, 0, 0, 0, 5)
   (0, ((r7 x0).2.1), ((r7 x0).2.2.1), ((r7 x0).2.2.2.1), ((r7 x0).2.2.2.2.1), ((r7 x0).2.2.2.2.2.1), ((r7 x0).2.2.2.2.2.2.1), ((r7 x0).2.2.2.2.2.2.2.1), ((r7 x0).2.2.2.2.2.2.2.2.1), ((r7 x0).2.2.2.2.2.2.2.2.2.1), ((r7 x0).2.2.2.2.2.2.2.2.2.2.1), ((r7 x0).2.2.2.2.2.2.2.2.2.2.2.1), ((r7 x0).2.2.2.2.2.2.2.2.2.2.2.2.1), ((r7 x0).2.2.2.2.2.2.2.2.2.2.2.2.2.1), ((r7 x0).2.2.2.2.2.2.2.2.2.2.2.2.2.2.1), ((r7 x0).2.2.2.2.2.2.2.2.2.2.2.2.2.2.2.1), ((r7 x0).2.2.2.2.2.2.2.2.2.2.2.2.2.2.2.2.1), ((r7 x0).2.2.2.2.2.2.2.2.2.2.2.2.2.2.2.2.2.1), ((r7 x0).2.2.2.2.2.2.2.2.2.2.2.2.2.2.2.2.2.2.1), 0))
  (1, 0, 0, 0, 0, 0, 0, 0, 0, 0, 0, 0, 0, 0, 0, 0, 0, 0, 0, 0)
noncomputable def a4 (x0 : ByteArray) (p : Nat × Nat × Nat × Nat × Nat × Nat × Nat × Nat × Nat × Nat × Nat × Nat × Nat × Nat × Nat × Nat × Nat × Nat × Nat × Int) : Res := firstT [((Nat.beq (p.1) 0), .tuple #[.agg #[.float .f32 (p.2.1), .float .f32 (p.2.2.1), .float .f32 (p.2.2.2.1), .float .f32 (p.2.2.2.2.1), .float .f32 (p.2.2.2.2.2.1), .float .f32 (p.2.2.2.2.2.2.1), .float .f32 (p.2.2.2.2.2.2.2.1), .float .f32 (p.2.2.2.2.2.2.2.2.1), .float .f32 (p.2.2.2.2.2.2.2.2.2.1), .float .f32 (p.2.2.2.2.2.2.2.2.2.2.1), .float .f32 (p.2.2.2.2.2.2.2.2.2.2.2.1), .float .f32 (p.2.2.2.2.2.2.2.2.2.2.2.2.1), .float .f32 (p.2.2.2.2.2.2.2.2.2.2.2.2.2.1), .float .f32 (p.2.2.2.2.2.2.2.2.2.2.2.2.2.2.1), .float .f32 (p.2.2.2.2.2.2.2.2.2.2.2.2.2.2.2.1), .float .f32 (p.2.2.2.2.2.2.2.2.2.2.2.2.2.2.2.2.1), .float .f32 (p.2.2.2.2.2.2.2.2.2.2.2.2.2.2.2.2.2.1), .float .f32 (p.2.2.2.2.2.2.2.2.2.2.2.2.2.2.2.2.2.2.1)], .int .i64 (p.2.2.2.2.2.2.2.2.2.2.2.2.2.2.2.2.2.2.2)], st0)]
noncomputable def w4 (x0 : ByteArray) : Res :=
 (cond (Nat.beq ((r7 x0).1) 0)
 (cond (!((r7 x0).2.2.2.2.2.2.2.2.2.2.2.2.2.2.2.2.2.2.2))
  (a4 x0 (0, 0, 0, 0, 0, 0, 0, 0, 0, 0, 0, 0, 0, 0, 0, 0, 0, 0, 0, 5))
  (a4 x0 (0, ((r7 x0).2.1), ((r7 x0).2.2.1), ((r7 x0).2.2.2.1), ((r7 x0).2.2.2.2.1), ((r7 x0).2.2.2.2.2.1), ((r7 x0).2.2.2.2.2.2.1), ((r7 x0).2.2.2.2.2.2.2.1), ((r7 x0).2.2.2.2.2.2.2.2.1), ((r7 x0).2.2.2.2.2.2.2.2.2.1), ((r7 x0).2.2.2.2.2.2.2.2.2.2.1), ((r7 x0).2.2.2.2.2.2.2.2.2.2.2.1), ((r7 x0).2.2.2.2.2.2.2.2.2.2.2.2.1), ((r7 x0).2.2.2.2.2.2.2.2.2.2.2.2.2.1), ((r7 x0).2.2.2.2.2.2.2.2.2.2.2.2.2.2.1), ((r7 x0).2.2.2.2.2.2.2.2.2.2.2.2.2.2.2.1), ((r7 x0).2.2.2.2.2.2.2.2.2.2.2.2.2.2.2.2.1), ((r7 x0).2.2.2.2.2.2.2.2.2.2.2.2.2.2.2.2.2.1), ((r7 x0).2.2.2.2.2.2.2.2.2.2.2.2.2.2.2.2.2.2.1), 0)))
 none)
set_option maxRecDepth 100000 in
set_option maxHeartbeats 4000000 in
theorem e4 (x0 : ByteArray) : evFn Tryd.prog ext T8 noL 200 Tryd.f4 [.string x0] st0 = firstT [((Nat.beq ((r4 x0).1) 0), .tuple #[.agg #[.float .f32 ((r4 x0).2.1), .float .f32 ((r4 x0).2.2.1), .float .f32 ((r4 x0).2.2.2.1), .float .f32 ((r4 x0).2.2.2.2.1), .float .f32 ((r4 x0).2.2.2.2.2.1), .float .f32 ((r4 x0).2.2.2.2.2.2.1), .float .f32 ((r4 x0).2.2.2.2.2.2.2.1), .float .f32 ((r4 x0).2.2.2.2.2.2.2.2.1), .float .f32 ((r4 x0).2.2.2.2.2.2.2.2.2.1), .float .f32 ((r4 x0).2.2.2.2.2.2.2.2.2.2.1), .float .f32 ((r4 x0).2.2.2.2.2.2.2.2.2.2.2.1), .float .f32 ((r4 x0).2.2.2.2.2.2.2.2.2.2.2.2.1), .float .f32 ((r4 x0).2.2.2.2.2.2.2.2.2.2.2.2.2.1), .float .f32 ((r4 x0).2.2.2.2.2.2.2.2.2.2.2.2.2.2.1), .float .f32 ((r4 x0).2.2.2.2.2.2.2.2.2.2.2.2.2.2.2.1), .float .f32 ((r4 x0).2.2.2.2.2.2.2.2.2.2.2.2.2.2.2.2.1), .float .f32 ((r4 x0).2.2.2.2.2.2.2.2.2.2.2.2.2.2.2.2.2.1), .float .f32 ((r4 x0).2.2.2.2.2.2.2.2.2.2.2.2.2.2.2.2.2.2.1)], .int .i64 ((r4 x0).2.2.2.2.2.2.2.2.2.2.2.2.2.2.2.2.2.2.2)], st0)] :=
 (show evFn Tryd.prog ext T8 noL 200 Tryd.f4 [.string x0] st0 = w4 x0 from by kernel_rfl).trans
 (show w4 x0 = a4 x0 (r4 x0) from by unfold w4 r4; exact (cond_app (a4 x0) _ (cond_app (a4 x0) _ rfl rfl) rfl))
noncomputable def s4 (args : List Value) (s : St) : List (Bool × Value × St) :=
 match args, s.h with
 | [.string x0], [] => [((Nat.beq ((r4 x0).1) 0), .tuple #[.agg #[.float .f32 ((r4 x0).2.1), .float .f32 ((r4 x0).2.2.1), .float .f32 ((r4 x0).2.2.2.1), .float .f32 ((r4 x0).2.2.2.2.1), .float .f32 ((r4 x0).2.2.2.2.2.1), .float .f32 ((r4 x0).2.2.2.2.2.2.1), .float .f32 ((r4 x0).2.2.2.2.2.2.2.1), .float .f32 ((r4 x0).2.2.2.2.2.2.2.2.1), .float .f32 ((r4 x0).2.2.2.2.2.2.2.2.2.1), .float .f32 ((r4 x0).2.2.2.2.2.2.2.2.2.2.1), .float .f32 ((r4 x0).2.2.2.2.2.2.2.2.2.2.2.1), .float .f32 ((r4 x0).2.2.2.2.2.2.2.2.2.2.2.2.1), .float .f32 ((r4 x0).2.2.2.2.2.2.2.2.2.2.2.2.2.1), .float .f32 ((r4 x0).2.2.2.2.2.2.2.2.2.2.2.2.2.2.1), .float .f32 ((r4 x0).2.2.2.2.2.2.2.2.2.2.2.2.2.2.2.1), .float .f32 ((r4 x0).2.2.2.2.2.2.2.2.2.2.2.2.2.2.2.2.1), .float .f32 ((r4 x0).2.2.2.2.2.2.2.2.2.2.2.2.2.2.2.2.2.1), .float .f32 ((r4 x0).2.2.2.2.2.2.2.2.2.2.2.2.2.2.2.2.2.2.1)], .int .i64 ((r4 x0).2.2.2.2.2.2.2.2.2.2.2.2.2.2.2.2.2.2.2)], st0)]
 | _, _ => T8 4 args s
noncomputable def T9 : CallF := addF T8 4 s4
set_option maxRecDepth 100000 in
set_option maxHeartbeats 4000000 in
theorem ok9 : CfOk Tryd.prog T9 := by
  refine cfOk_add ok8 fun args s r s' h1 h2 h3 => ?_
  unfold s4 at h3; split at h3
  · rename_i h; exact callOk ok8 Tryd.func4 h1 h2 h (lfOkF_no _ _).body (e4 _) rfl h3
  · exact ok8 _ _ _ _ _ h1 h2 h3

/-- impl.split -/
noncomputable def r8 (x0 : ByteArray) : Nat × Nat × List ByteArray :=
 cond (Nat.blt (x0.size) 4294967281)
  (0, (splB 32 x0).length, (splB 32 x0))
  (1, 0, [])
noncomputable def a8 (x0 : ByteArray) (p : Nat × Nat × List ByteArray) : Res := firstT [((Nat.beq (p.1) 0), .pointer (some ⟨0, 0, some 0⟩), ⟨[⟨true, (some (.cells [rsl ⟨1, 0, some 0⟩ (p.2.1), .bool false]))⟩, ⟨true, (some (.strs (p.2.2)))⟩], 0, []⟩)]
noncomputable def w8 (x0 : ByteArray) : Res :=
 (cond (Nat.blt (x0.size) 4294967281)
 (a8 x0 (0, (splB 32 x0).length, (splB 32 x0)))
 none)
set_option maxRecDepth 100000 in
set_option maxHeartbeats 4000000 in
theorem e8 (x0 : ByteArray) : evFn Tryd.prog ext T9 noL 200 Tryd.f8 [.string x0] st0 = firstT [((Nat.beq ((r8 x0).1) 0), .pointer (some ⟨0, 0, some 0⟩), ⟨[⟨true, (some (.cells [rsl ⟨1, 0, some 0⟩ ((r8 x0).2.1), .bool false]))⟩, ⟨true, (some (.strs ((r8 x0).2.2)))⟩], 0, []⟩)] :=
 (show evFn Tryd.prog ext T9 noL 200 Tryd.f8 [.string x0] st0 = w8 x0 from by kernel_rfl).trans
 (show w8 x0 = a8 x0 (r8 x0) from by unfold w8 r8; exact (cond_app (a8 x0) _ rfl rfl))
noncomputable def s8 (args : List Value) (s : St) : List (Bool × Value × St) :=
 match args, s.h with
 | [.string x0], [] => [((Nat.beq ((r8 x0).1) 0), .pointer (some ⟨0, 0, some 0⟩), ⟨[⟨true, (some (.cells [rsl ⟨1, 0, some 0⟩ ((r8 x0).2.1), .bool false]))⟩, ⟨true, (some (.strs ((r8 x0).2.2)))⟩], 0, []⟩)]
 | _, _ => T9 8 args s
noncomputable def T10 : CallF := addF T9 8 s8
set_option maxRecDepth 100000 in
set_option maxHeartbeats 4000000 in
theorem ok10 : CfOk Tryd.prog T10 := by
  refine cfOk_add ok9 fun args s r s' h1 h2 h3 => ?_
  unfold s8 at h3; split at h3
  · rename_i h; exact callOk ok9 Tryd.func8 h1 h2 h (lfOkF_no _ _).body (e8 _) rfl h3
  · exact ok9 _ _ _ _ _ h1 h2 h3

/-- (*impl.words).next -/
noncomputable def r19 (x0 x1 : Nat) (x2 : Bool) (x3 : List ByteArray) : Nat × ByteArray × Nat × Nat × Bool :=
 cond ((((x1 : Nat) : Int) : Int) == 0)
  (0, (ByteArray.mk #[]), x0, x1, true)
  (cond (Nat.blt 0 x1)
   (cond (Nat.blt (x0 + 0) x3.length)
    (cond ((Nat.ble 1 x1) && (Nat.ble x1 x1))
     (0, (x3.getD (x0 + 0) .empty), (x0 + 1), (x1 - 1), x2)
     (1, ByteArray.empty, 0, 0, false))
    (1, ByteArray.empty, 0, 0, false))
   (1, ByteArray.empty, 0, 0, false))
noncomputable def a19 (x0 x1 : Nat) (x2 : Bool) (x3 : List ByteArray) (p : Nat × ByteArray × Nat × Nat × Bool) : Res := firstT [((Nat.beq (p.1) 0), .string (p.2.1), ⟨[⟨true, (some (.cells [rsl ⟨1, (p.2.2.1), some 0⟩ (p.2.2.2.1), .bool (p.2.2.2.2)]))⟩, ⟨true, (some (.strs x3))⟩], 2, [0]⟩)]
noncomputable def w19 (x0 x1 : Nat) (x2 : Bool) (x3 : List ByteArray) : Res :=
 (cond ((((x1 : Nat) : Int) : Int) == 0)
 (a19 x0 x1 x2 x3 (0, (ByteArray.mk #[]), x0, x1, true))
 (cond (Nat.blt 0 x1)
  (cond (Nat.blt (x0 + 0) x3.length)
   (cond ((Nat.ble 1 x1) && (Nat.ble x1 x1))
    (a19 x0 x1 x2 x3 (0, (x3.getD (x0 + 0) .empty), (x0 + 1), (x1 - 1), x2))
    none)
   none)
  none))
set_option maxRecDepth 100000 in
set_option maxHeartbeats 4000000 in
theorem e19 (x0 x1 : Nat) (x2 : Bool) (x3 : List ByteArray) : evFn Tryd.prog ext T10 noL 200 Tryd.f19 [.pointer (some ⟨0, 0, some 0⟩)] ⟨[⟨true, (some (.cells [rsl ⟨1, x0, some 0⟩ x1, .bool x2]))⟩, ⟨true, (some (.strs x3))⟩], 2, []⟩ = firstT [((Nat.beq ((r19 x0 x1 x2 x3).1) 0), .string ((r19 x0 x1 x2 x3).2.1), ⟨[⟨true, (some (.cells [rsl ⟨1, ((r19 x0 x1 x2 x3).2.2.1), some 0⟩ ((r19 x0 x1 x2 x3).2.2.2.1), .bool ((r19 x0 x1 x2 x3).2.2.2.2)]))⟩, ⟨true, (some (.strs x3))⟩], 2, [0]⟩)] :=
 (show evFn Tryd.prog ext T10 noL 200 Tryd.f19 [.pointer (some ⟨0, 0, some 0⟩)] ⟨[⟨true, (some (.cells [rsl ⟨1, x0, some 0⟩ x1, .bool x2]))⟩, ⟨true, (some (.strs x3))⟩], 2, []⟩ = w19 x0 x1 x2 x3 from by kernel_rfl).trans
 (show w19 x0 x1 x2 x3 = a19 x0 x1 x2 x3 (r19 x0 x1 x2 x3) from by unfold w19 r19; exact (cond_app (a19 x0 x1 x2 x3) _ rfl (cond_app (a19 x0 x1 x2 x3) _ (cond_app (a19 x0 x1 x2 x3) _ (cond_app (a19 x0 x1 x2 x3) _ rfl rfl) rfl) rfl)))
noncomputable def s19 (args : List Value) (s : St) : List (Bool × Value × St) :=
 match args, s.h with
 | [.pointer (some ⟨f0, f1, some f2⟩)], [⟨true, some (.cells [.iface x1 (.pointer (some ⟨f3, x0, some f4⟩)), .bool x2])⟩, ⟨true, some (.strs x3)⟩] => if f0 = 0 ∧ f1 = 0 ∧ f2 = 0 ∧ f3 = 1 ∧ f4 = 0 then [((Nat.beq ((r19 x0 x1 x2 x3).1) 0), .string ((r19 x0 x1 x2 x3).2.1), ⟨[⟨true, (some (.cells [rsl ⟨1, ((r19 x0 x1 x2 x3).2.2.1), some 0⟩ ((r19 x0 x1 x2 x3).2.2.2.1), .bool ((r19 x0 x1 x2 x3).2.2.2.2)]))⟩, ⟨true, (some (.strs x3))⟩], 2, [0]⟩)] else T10 19 args s
 | _, _ => T10 19 args s
noncomputable def T11 : CallF := addF T10 19 s19
set_option maxRecDepth 100000 in
set_option maxHeartbeats 4000000 in
theorem ok11 : CfOk Tryd.prog T11 := by
  refine cfOk_add ok10 fun args s r s' h1 h2 h3 => ?_
  unfold s19 at h3; split at h3
  · rename_i h; split at h3
    · rename_i hc; obtain ⟨rfl, rfl, rfl, rfl, rfl⟩ := hc; exact callOk ok10 Tryd.func19 h1 h2 h (lfOkF_no _ _).body (e19 _ _ _ _) rfl h3
    · exact ok10 _ _ _ _ _ h1 h2 h3
  · exact ok10 _ _ _ _ _ h1 h2 h3

/-- (*impl.words).is -/
noncomputable def r9 (x0 : ByteArray) (x1 x2 : Nat) (x3 : Bool) (x4 : List ByteArray) : Nat × Nat × Nat × Bool :=
 cond (Nat.beq ((r19 x1 x2 x3 x4).1) 0)
  (cond (!(((r19 x1 x2 x3 x4).2.1).toList == x0.toList))
   (0, ((r19 x1 x2 x3 x4).2.2.1), ((r19 x1 x2 x3 x4).2.2.2.1), true)
   (0, ((r19 x1 x2 x3 x4).2.2.1), ((r19 x1 x2 x3 x4).2.2.2.1), ((r19 x1 x2 x3 x4).2.2.2.2)))
  (1, 0, 0, false)
noncomputable def a9 (x0 : ByteArray) (x1 x2 : Nat) (x3 : Bool) (x4 : List ByteArray) (p : Nat × Nat × Nat × Bool) : Res := firstT [((Nat.beq (p.1) 0), .tuple #[], ⟨[⟨true, (some (.cells [rsl ⟨1, (p.2.1), some 0⟩ (p.2.2.1), .bool (p.2.2.2)]))⟩, ⟨true, (some (.strs x4))⟩], 2, [0]⟩)]
noncomputable def w9 (x0 : ByteArray) (x1 x2 : Nat) (x3 : Bool) (x4 : List ByteArray) : Res :=
 (cond (Nat.beq ((r19 x1 x2 x3 x4).1) 0)
 (cond (!(((r19 x1 x2 x3 x4).2.1).toList == x0.toList))
  (a9 x0 x1 x2 x3 x4 (0, ((r19 x1 x2 x3 x4).2.2.1), ((r19 x1 x2 x3 x4).2.2.2.1), true))
  (a9 x0 x1 x2 x3 x4 (0, ((r19 x1 x2 x3 x4).2.2.1), ((r19 x1 x2 x3 x4).2.2.2.1), ((r19 x1 x2 x3 x4).2.2.2.2))))
 none)
set_option maxRecDepth 100000 in
set_option maxHeartbeats 4000000 in
theorem e9 (x0 : ByteArray) (x1 x2 : Nat) (x3 : Bool) (x4 : List ByteArray) : evFn Tryd.prog ext T11 noL 200 Tryd.f9 [.pointer (some ⟨0, 0, some 0⟩), .string x0] ⟨[⟨true, (some (.cells [rsl ⟨1, x1, some 0⟩ x2, .bool x3]))⟩, ⟨true, (some (.strs x4))⟩], 2, []⟩ = firstT [((Nat.beq ((r9 x0 x1 x2 x3 x4).1) 0), .tuple #[], ⟨[⟨true, (some (.cells [rsl ⟨1, ((r9 x0 x1 x2 x3 x4).2.1), some 0⟩ ((r9 x0 x1 x2 x3 x4).2.2.1), .bool ((r9 x0 x1 x2 x3 x4).2.2.2)]))⟩, ⟨true, (some (.strs x4))⟩], 2, [0]⟩)] :=
 (show evFn Tryd.prog ext T11 noL 200 Tryd.f9 [.pointer (some ⟨0, 0, some 0⟩), .string x0] ⟨[⟨true, (some (.cells [rsl ⟨1, x1, some 0⟩ x2, .bool x3]))⟩, ⟨true, (some (.strs x4))⟩], 2, []⟩ = w9 x0 x1 x2 x3 x4 from by kernel_rfl).trans
 (show w9 x0 x1 x2 x3 x4 = a9 x0 x1 x2 x3 x4 (r9 x0 x1 x2 x3 x4) from by unfold w9 r9; exact (cond_app (a9 x0 x1 x2 x3 x4) _ (cond_app (a9 x0 x1 x2 x3 x4) _ rfl rfl) rfl))
noncomputable def s9 (args : List Value) (s : St) : List (Bool × Value × St) :=
 match args, s.h with
 | [.pointer (some ⟨f0, f1, some f2⟩), .string x0], [⟨true, some (.cells [.iface x2 (.pointer (some ⟨f3, x1, some f4⟩)), .bool x3])⟩, ⟨true, some (.strs x4)⟩] => if f0 = 0 ∧ f1 = 0 ∧ f2 = 0 ∧ f3 = 1 ∧ f4 = 0 then [((Nat.beq ((r9 x0 x1 x2 x3 x4).1) 0), .tuple #[], ⟨[⟨true, (some (.cells [rsl ⟨1, ((r9 x0 x1 x2 x3 x4).2.1), some 0⟩ ((r9 x0 x1 x2 x3 x4).2.2.1), .bool ((r9 x0 x1 x2 x3 x4).2.2.2)]))⟩, ⟨true, (some (.strs x4))⟩], 2, [0]⟩)] else T11 9 args s
 | _, _ => T11 9 args s
noncomputable def T12 : CallF := addF T11 9 s9
set_option maxRecDepth 100000 in
set_option maxHeartbeats 4000000 in
theorem ok12 : CfOk Tryd.prog T12 := by
  refine cfOk_add ok11 fun args s r s' h1 h2 h3 => ?_
  unfold s9 at h3; split at h3
  · rename_i h; split at h3
    · rename_i hc; obtain ⟨rfl, rfl, rfl, rfl, rfl⟩ := hc; exact callOk ok11 Tryd.func9 h1 h2 h (lfOkF_no _ _).body (e9 _ _ _ _ _) rfl h3
    · exact ok11 _ _ _ _ _ h1 h2 h3
  · exact ok11 _ _ _ _ _ h1 h2 h3

/-- impl.unhex, loop 0: one round -/
noncomputable def b29l0 (ih : ByteArray → Int → Int → Int → (Nat × Int × Int)) (x0 : ByteArray) (x1 x2 x3 : Int) : Nat × Int × Int :=
 cond (decide ((x3 : Int) < x2))
  (cond ((decide ((0 : Int) ≤ x3)) && (Nat.blt (Int.toNat x3) (x0.size)))
   (cond (decide (((ixB (ByteArray.mk #[48, 49, 50, 51, 52, 53, 54, 55, 56, 57, 97, 98, 99, 100, 101, 102]) ((UInt8.toNat (List.getD (ByteArray.data x0).toList (Int.toNat x3) 0) : Nat) : Int)) : Int) < 0))
    (0, x1, 0)
    (ih x0 (bits .or .u32 (IntKind.u32.wrap (x1 * 2 ^ (min (4 : Int).toNat (IntKind.bits .u32)))) (IntKind.u32.wrap (ixB (ByteArray.mk #[48, 49, 50, 51, 52, 53, 54, 55, 56, 57, 97, 98, 99, 100, 101, 102]) ((UInt8.toNat (List.getD (ByteArray.data x0).toList (Int.toNat x3) 0) : Nat) : Int)))) x2 (IntKind.i64.wrap (x3 + 1))))
   (2, 0, 0))
  (1, 0, x1)
noncomputable def r29l0 : Nat → ByteArray → Int → Int → Int → (Nat × Int × Int)
 | 0 => fun _ _ _ _ => (2, 0, 0)
 | m + 1 => b29l0 (r29l0 m)
noncomputable def a29l0 (x0 : ByteArray) (x1 x2 x3 : Int) (p : Nat × Int × Int) : Option (Fin' × List Value × St) := firstT ([((Nat.beq (p.1) 0), .ret, [.int .u32 0, .bool false, .int .u32 (p.2.1)], st0), ((Nat.beq (p.1) 1), .exit 0, [anyV, anyV, .int .u32 (p.2.2)], st0)].map fun (b, x) => (b, (x.1, frameOf 28 [2, 3, 4] x.2.1, x.2.2)))
noncomputable def u29l0 (x0 : ByteArray) (x1 x2 x3 : Int) (p : Nat × Int × Int) : Option (Fin' × List Value × St) := alts ([((Nat.beq (p.1) 0), .ret, [.int .u32 0, .bool false, .int .u32 (p.2.1)], st0), ((Nat.beq (p.1) 1), .exit 0, [anyV, anyV, .int .u32 (p.2.2)], st0)].map fun (b, x) => (b, (x.1, frameOf 28 [2, 3, 4] x.2.1, x.2.2))) some
theorem v29l0 (x0 : ByteArray) (x1 x2 x3 : Int) (p : Nat × Int × Int) : u29l0 x0 x1 x2 x3 p = a29l0 x0 x1 x2 x3 p := alts_first _
noncomputable def q29l0 (m : Nat) : SumK := fun vals s =>
 match vals, s.h with
 | [.string x0, .int .u32 x1, .int .i64 x2, .int .i64 x3], [] => [((Nat.beq ((r29l0 m x0 x1 x2 x3).1) 0), .ret, [.int .u32 0, .bool false, .int .u32 ((r29l0 m x0 x1 x2 x3).2.1)], st0), ((Nat.beq ((r29l0 m x0 x1 x2 x3).1) 1), .exit 0, [anyV, anyV, .int .u32 ((r29l0 m x0 x1 x2 x3).2.2)], st0)]
 | _, _ => noQ vals s
noncomputable def w29l0 (ih : ByteArray → Int → Int → Int → (Nat × Int × Int)) (x0 : ByteArray) (x1 x2 x3 : Int) : Option (Fin' × List Value × St) :=
 (cond (decide ((x3 : Int) < x2))
 (cond ((decide ((0 : Int) ≤ x3)) && (Nat.blt (Int.toNat x3) (x0.size)))
  (cond (decide (((ixB (ByteArray.mk #[48, 49, 50, 51, 52, 53, 54, 55, 56, 57, 97, 98, 99, 100, 101, 102]) ((UInt8.toNat (List.getD (ByteArray.data x0).toList (Int.toNat x3) 0) : Nat) : Int)) : Int) < 0))
   (a29l0 x0 x1 x2 x3 (0, x1, 0))
   (u29l0 x0 x1 x2 x3 (ih x0 (bits .or .u32 (IntKind.u32.wrap (x1 * 2 ^ (min (4 : Int).toNat (IntKind.bits .u32)))) (IntKind.u32.wrap (ixB (ByteArray.mk #[48, 49, 50, 51, 52, 53, 54, 55, 56, 57, 97, 98, 99, 100, 101, 102]) ((UInt8.toNat (List.getD (ByteArray.data x0).toList (Int.toNat x3) 0) : Nat) : Int)))) x2 (IntKind.i64.wrap (x3 + 1)))))
  none)
 (a29l0 x0 x1 x2 x3 (1, 0, x1)))
set_option maxRecDepth 100000 in
set_option maxHeartbeats 4000000 in
theorem e29l0 (m : Nat) (x0 : ByteArray) (x1 x2 x3 : Int) : evC Tryd.prog ext T12 noL 200 (loopN Tryd.f29 0) (loopTail ([0, 4, 11, 12], []) [2, 3, 4] [] (sumK 28 [0, 4, 11, 12] [2, 3, 4] (q29l0 m))) (frameOf 28 [0, 4, 11, 12] [.string x0, .int .u32 x1, .int .i64 x2, .int .i64 x3]) ⟨[], 0, []⟩ = firstT ([((Nat.beq ((r29l0 (m + 1) x0 x1 x2 x3).1) 0), .ret, [.int .u32 0, .bool false, .int .u32 ((r29l0 (m + 1) x0 x1 x2 x3).2.1)], st0), ((Nat.beq ((r29l0 (m + 1) x0 x1 x2 x3).1) 1), .exit 0, [anyV, anyV, .int .u32 ((r29l0 (m + 1) x0 x1 x2 x3).2.2)], st0)].map fun (b, x) => (b, (x.1, frameOf 28 [2, 3, 4] x.2.1, x.2.2))) :=
 (show evC Tryd.prog ext T12 noL 200 (loopN Tryd.f29 0) (loopTail ([0, 4, 11, 12], []) [2, 3, 4] [] (sumK 28 [0, 4, 11, 12] [2, 3, 4] (q29l0 m))) (frameOf 28 [0, 4, 11, 12] [.string x0, .int .u32 x1, .int .i64 x2, .int .i64 x3]) ⟨[], 0, []⟩ = w29l0 (r29l0 m) x0 x1 x2 x3 from by kernel_rfl).trans
 (show w29l0 (r29l0 m) x0 x1 x2 x3 = a29l0 x0 x1 x2 x3 (r29l0 (m + 1) x0 x1 x2 x3) from by unfold w29l0; show _ = a29l0 x0 x1 x2 x3 (b29l0 (r29l0 m) x0 x1 x2 x3); unfold b29l0; exact (cond_app (a29l0 x0 x1 x2 x3) _ (cond_app (a29l0 x0 x1 x2 x3) _ (cond_app (a29l0 x0 x1 x2 x3) _ rfl (v29l0 x0 x1 x2 x3 ((r29l0 m) x0 (bits .or .u32 (IntKind.u32.wrap (x1 * 2 ^ (min (4 : Int).toNat (IntKind.bits .u32)))) (IntKind.u32.wrap (ixB (ByteArray.mk #[48, 49, 50, 51, 52, 53, 54, 55, 56, 57, 97, 98, 99, 100, 101, 102]) ((UInt8.toNat (List.getD (ByteArray.data x0).toList (Int.toNat x3) 0) : Nat) : Int)))) x2 (IntKind.i64.wrap (x3 + 1))))) rfl) rfl))
set_option maxRecDepth 100000 in
set_option maxHeartbeats 4000000 in
theorem qm29l0 : ∀ m, SumKOk Tryd.prog (loopN Tryd.f29 0) 28 [0, 4, 11, 12] [2, 3, 4] (q29l0 m) := by
  intro m
  induction m with
  | zero =>
    intro vals s x h1 h2 h3
    unfold q29l0 at h3; split at h3
    · rename_i h; exact absurd h3 (by simp [r29l0, firstT, Nat.beq])
    · exact noQ_ok _ _ _ h1 h2 h3
  | succ m ih =>
    intro vals s x h1 h2 h3
    unfold q29l0 at h3; split at h3
    · rename_i h; exact sum_step ok12 extOk mixed ((lfOkF_no _ _).inner (by kernel_rfl)) ih h1 h2 h (e29l0 m _ _ _ _) rfl h3
    · exact noQ_ok _ _ _ h1 h2 h3
noncomputable def Q29l0 : SumK := fun vals s => q29l0 (fuelOf vals s.h) vals s
theorem qok29l0 : SumKOk Tryd.prog (loopN Tryd.f29 0) 28 [0, 4, 11, 12] [2, 3, 4] Q29l0 := fuel_ok qm29l0 fuelOf
noncomputable def L29_1 : LoopT := addL noL 6 ([0, 4, 11, 12], []) (sumK 28 [0, 4, 11, 12] [2, 3, 4] Q29l0)
theorem lok29_1 : LfOkF Tryd.prog L29_1 Tryd.f29 := lfOkF_add (lfOkF_no _ _) qok29l0 (by kernel_rfl) (by kernel_rfl) (by kernel_rfl)

/-- impl.unhex -/
noncomputable def r29 (x0 : ByteArray) : Nat × Int × Bool :=
 cond (((((x0.size) : Nat) : Int) : Int) != 8)
  (0, 0, false)
  (cond (Nat.beq ((r29l0 (1000 + (x0.size)) x0 0 (((x0.size) : Nat) : Int) 0).1) 0)
   (0, 0, false)
   (cond (Nat.beq ((r29l0 (1000 + (x0.size)) x0 0 (((x0.size) : Nat) : Int) 0).1) 1)
    (0, ((r29l0 (1000 + (x0.size)) x0 0 (((x0.size) : Nat) : Int) 0).2.2), true)
    (1, 0, false)))
noncomputable def a29 (x0 : ByteArray) (p : Nat × Int × Bool) : Res := firstT [((Nat.beq (p.1) 0), .tuple #[.int .u32 (p.2.1), .bool (p.2.2)], st0)]
noncomputable def w29 (x0 : ByteArray) : Res :=
 (cond (((((x0.size) : Nat) : Int) : Int) != 8)
 (a29 x0 (0, 0, false))
 (cond (Nat.beq ((r29l0 (1000 + (x0.size)) x0 0 (((x0.size) : Nat) : Int) 0).1) 0)
  (a29 x0 (0, 0, false))
  (cond (Nat.beq ((r29l0 (1000 + (x0.size)) x0 0 (((x0.size) : Nat) : Int) 0).1) 1)
   (a29 x0 (0, ((r29l0 (1000 + (x0.size)) x0 0 (((x0.size) : Nat) : Int) 0).2.2), true))
   none)))
set_option maxRecDepth 100000 in
set_option maxHeartbeats 4000000 in
theorem e29 (x0 : ByteArray) : evFn Tryd.prog ext T12 L29_1 200 Tryd.f29 [.string x0] st0 = firstT [((Nat.beq ((r29 x0).1) 0), .tuple #[.int .u32 ((r29 x0).2.1), .bool ((r29 x0).2.2)], st0)] :=
 (show evFn Tryd.prog ext T12 L29_1 200 Tryd.f29 [.string x0] st0 = w29 x0 from by kernel_rfl).trans
 (show w29 x0 = a29 x0 (r29 x0) from by unfold w29 r29; exact (cond_app (a29 x0) _ rfl (cond_app (a29 x0) _ rfl (cond_app (a29 x0) _ rfl rfl))))
noncomputable def s29 (args : List Value) (s : St) : List (Bool × Value × St) :=
 match args, s.h with
 | [.string x0], [] => [((Nat.beq ((r29 x0).1) 0), .tuple #[.int .u32 ((r29 x0).2.1), .bool ((r29 x0).2.2)], st0)]
 | _, _ => T12 29 args s
noncomputable def T13 : CallF := addF T12 29 s29
set_option maxRecDepth 100000 in
set_option maxHeartbeats 4000000 in
theorem ok13 : CfOk Tryd.prog T13 := by
  refine cfOk_add ok12 fun args s r s' h1 h2 h3 => ?_
  unfold s29 at h3; split at h3
  · rename_i h; exact callOk ok12 Tryd.func29 h1 h2 h lok29_1.body (e29 _) rfl h3
  · exact ok12 _ _ _ _ _ h1 h2 h3

/-- impl.hex -/
noncomputable def r32 (x0 : Int) : Nat × ByteArray :=
 cond ((decide ((0 : Int) ≤ (bits .and .u32 (Int.fdiv x0 (2 ^ (min (28 : Int).toNat (IntKind.bits .u32)))) 15))) && (Nat.blt (Int.toNat (bits .and .u32 (Int.fdiv x0 (2 ^ (min (28 : Int).toNat (IntKind.bits .u32)))) 15)) 16))
  (cond ((decide ((0 : Int) ≤ (bits .and .u32 (Int.fdiv x0 (2 ^ (min (24 : Int).toNat (IntKind.bits .u32)))) 15))) && (Nat.blt (Int.toNat (bits .and .u32 (Int.fdiv x0 (2 ^ (min (24 : Int).toNat (IntKind.bits .u32)))) 15)) 16))
   (cond ((decide ((0 : Int) ≤ (bits .and .u32 (Int.fdiv x0 (2 ^ (min (20 : Int).toNat (IntKind.bits .u32)))) 15))) && (Nat.blt (Int.toNat (bits .and .u32 (Int.fdiv x0 (2 ^ (min (20 : Int).toNat (IntKind.bits .u32)))) 15)) 16))
    (cond ((decide ((0 : Int) ≤ (bits .and .u32 (Int.fdiv x0 (2 ^ (min (16 : Int).toNat (IntKind.bits .u32)))) 15))) && (Nat.blt (Int.toNat (bits .and .u32 (Int.fdiv x0 (2 ^ (min (16 : Int).toNat (IntKind.bits .u32)))) 15)) 16))
     (cond ((decide ((0 : Int) ≤ (bits .and .u32 (Int.fdiv x0 (2 ^ (min (12 : Int).toNat (IntKind.bits .u32)))) 15))) && (Nat.blt (Int.toNat (bits .and .u32 (Int.fdiv x0 (2 ^ (min (12 : Int).toNat (IntKind.bits .u32)))) 15)) 16))
      (cond ((decide ((0 : Int) ≤ (bits .and .u32 (Int.fdiv x0 (2 ^ (min (8 : Int).toNat (IntKind.bits .u32)))) 15))) && (Nat.blt (Int.toNat (bits .and .u32 (Int.fdiv x0 (2 ^ (min (8 : Int).toNat (IntKind.bits .u32)))) 15)) 16))
       (cond ((decide ((0 : Int) ≤ (bits .and .u32 (Int.fdiv x0 (2 ^ (min (4 : Int).toNat (IntKind.bits .u32)))) 15))) && (Nat.blt (Int.toNat (bits .and .u32 (Int.fdiv x0 (2 ^ (min (4 : Int).toNat (IntKind.bits .u32)))) 15)) 16))
        (cond ((decide ((0 : Int) ≤ (bits .and .u32 (Int.fdiv x0 (2 ^ (min (0 : Int).toNat (IntKind.bits .u32)))) 15))) && (Nat.blt (Int.toNat (bits .and .u32 (Int.fdiv x0 (2 ^ (min (0 : Int).toNat (IntKind.bits .u32)))) 15)) 16))
         (0, (bytesOf ([[((UInt8.toNat (List.getD (ByteArray.data (ByteArray.mk #[48, 49, 50, 51, 52, 53, 54, 55, 56, 57, 97, 98, 99, 100, 101, 102])).toList (Int.toNat (bits .and .u32 (Int.fdiv x0 (2 ^ (min (28 : Int).toNat (IntKind.bits .u32)))) 15)) 0) : Nat) : Int)], [((UInt8.toNat (List.getD (ByteArray.data (ByteArray.mk #[48, 49, 50, 51, 52, 53, 54, 55, 56, 57, 97, 98, 99, 100, 101, 102])).toList (Int.toNat (bits .and .u32 (Int.fdiv x0 (2 ^ (min (24 : Int).toNat (IntKind.bits .u32)))) 15)) 0) : Nat) : Int)], [((UInt8.toNat (List.getD (ByteArray.data (ByteArray.mk #[48, 49, 50, 51, 52, 53, 54, 55, 56, 57, 97, 98, 99, 100, 101, 102])).toList (Int.toNat (bits .and .u32 (Int.fdiv x0 (2 ^ (min (20 : Int).toNat (IntKind.bits .u32)))) 15)) 0) : Nat) : Int)], [((UInt8.toNat (List.getD (ByteArray.data (ByteArray.mk #[48, 49, 50, 51, 52, 53, 54, 55, 56, 57, 97, 98, 99, 100, 101, 102])).toList (Int.toNat (bits .and .u32 (Int.fdiv x0 (2 ^ (min (16 : Int).toNat (IntKind.bits .u32)))) 15)) 0) : Nat) : Int)], [((UInt8.toNat (List.getD (ByteArray.data (ByteArray.mk #[48, 49, 50, 51, 52, 53, 54, 55, 56, 57, 97, 98, 99, 100, 101, 102])).toList (Int.toNat (bits .and .u32 (Int.fdiv x0 (2 ^ (min (12 : Int).toNat (IntKind.bits .u32)))) 15)) 0) : Nat) : Int)], [((UInt8.toNat (List.getD (ByteArray.data (ByteArray.mk #[48, 49, 50, 51, 52, 53, 54, 55, 56, 57, 97, 98, 99, 100, 101, 102])).toList (Int.toNat (bits .and .u32 (Int.fdiv x0 (2 ^ (min (8 : Int).toNat (IntKind.bits .u32)))) 15)) 0) : Nat) : Int)], [((UInt8.toNat (List.getD (ByteArray.data (ByteArray.mk #[48, 49, 50, 51, 52, 53, 54, 55, 56, 57, 97, 98, 99, 100, 101, 102])).toList (Int.toNat (bits .and .u32 (Int.fdiv x0 (2 ^ (min (4 : Int).toNat (IntKind.bits .u32)))) 15)) 0) : Nat) : Int)], [((UInt8.toNat (List.getD (ByteArray.data (ByteArray.mk #[48, 49, 50, 51, 52, 53, 54, 55, 56, 57, 97, 98, 99, 100, 101, 102])).toList (Int.toNat (bits .and .u32 (Int.fdiv x0 (2 ^ (min (0 : Int).toNat (IntKind.bits .u32)))) 15)) 0) : Nat) : Int)]] : List (List Int))))
         (1, ByteArray.empty))
        (1, ByteArray.empty))
       (1, ByteArray.empty))
      (1, ByteArray.empty))
     (1, ByteArray.empty))
    (1, ByteArray.empty))
   (1, ByteArray.empty))
  (1, ByteArray.empty)
noncomputable def a32 (x0 : Int) (p : Nat × ByteArray) : Res := firstT [((Nat.beq (p.1) 0), .string (p.2), st0)]
noncomputable def w32 (x0 : Int) : Res :=
 (cond ((decide ((0 : Int) ≤ (bits .and .u32 (Int.fdiv x0 (2 ^ (min (28 : Int).toNat (IntKind.bits .u32)))) 15))) && (Nat.blt (Int.toNat (bits .and .u32 (Int.fdiv x0 (2 ^ (min (28 : Int).toNat (IntKind.bits .u32)))) 15)) 16))
 (cond ((decide ((0 : Int) ≤ (bits .and .u32 (Int.fdiv x0 (2 ^ (min (24 : Int).toNat (IntKind.bits .u32)))) 15))) && (Nat.blt (Int.toNat (bits .and .u32 (Int.fdiv x0 (2 ^ (min (24 : Int).toNat (IntKind.bits .u32)))) 15)) 16))
  (cond ((decide ((0 : Int) ≤ (bits .and .u32 (Int.fdiv x0 (2 ^ (min (20 : Int).toNat (IntKind.bits .u32)))) 15))) && (Nat.blt (Int.toNat (bits .and .u32 (Int.fdiv x0 (2 ^ (min (20 : Int).toNat (IntKind.bits .u32)))) 15)) 16))
   (cond ((decide ((0 : Int) ≤ (bits .and .u32 (Int.fdiv x0 (2 ^ (min (16 : Int).toNat (IntKind.bits .u32)))) 15))) && (Nat.blt (Int.toNat (bits .and .u32 (Int.fdiv x0 (2 ^ (min (16 : Int).toNat (IntKind.bits .u32)))) 15)) 16))
    (cond ((decide ((0 : Int) ≤ (bits .and .u32 (Int.fdiv x0 (2 ^ (min (12 : Int).toNat (IntKind.bits .u32)))) 15))) && (Nat.blt (Int.toNat (bits .and .u32 (Int.fdiv x0 (2 ^ (min (12 : Int).toNat (IntKind.bits .u32)))) 15)) 16))
     (cond ((decide ((0 : Int) ≤ (bits .and .u32 (Int.fdiv x0 (2 ^ (min (8 : Int).toNat (IntKind.bits .u32)))) 15))) && (Nat.blt (Int.toNat (bits .and .u32 (Int.fdiv x0 (2 ^ (min (8 : Int).toNat (IntKind.bits .u32)))) 15)) 16))
      (cond ((decide ((0 : Int) ≤ (bits .and .u32 (Int.fdiv x0 (2 ^ (min (4 : Int).toNat (IntKind.bits .u32)))) 15))) && (Nat.blt (Int.toNat (bits .and .u32 (Int.fdiv x0 (2 ^ (min (4 : Int).toNat (IntKind.bits .u32)))) 15)) 16))
       (cond ((decide ((0 : Int) ≤ (bits .and .u32 (Int.fdiv x0 (2 ^ (min (0 : Int).toNat (IntKind.bits .u32)))) 15))) && (Nat.blt (Int.toNat (bits .and .u32 (Int.fdiv x0 (2 ^ (min (0 : Int).toNat (IntKind.bits .u32)))) 15)) 16))
        (a32 x0 (0, (bytesOf ([[((UInt8.toNat (List.getD (ByteArray.data (ByteArray.mk #[48, 49, 50, 51, 52, 53, 54, 55, 56, 57, 97, 98, 99, 100, 101, 102])).toList (Int.toNat (bits .and .u32 (Int.fdiv x0 (2 ^ (min (28 : Int).toNat (IntKind.bits .u32)))) 15)) 0) : Nat) : Int)], [((UInt8.toNat (List.getD (ByteArray.data (ByteArray.mk #[48, 49, 50, 51, 52, 53, 54, 55, 56, 57, 97, 98, 99, 100, 101, 102])).toList (Int.toNat (bits .and .u32 (Int.fdiv x0 (2 ^ (min (24 : Int).toNat (IntKind.bits .u32)))) 15)) 0) : Nat) : Int)], [((UInt8.toNat (List.getD (ByteArray.data (ByteArray.mk #[48, 49, 50, 51, 52, 53, 54, 55, 56, 57, 97, 98, 99, 100, 101, 102])).toList (Int.toNat (bits .and .u32 (Int.fdiv x0 (2 ^ (min (20 : Int).toNat (IntKind.bits .u32)))) 15)) 0) : Nat) : Int)], [((UInt8.toNat (List.getD (ByteArray.data (ByteArray.mk #[48, 49, 50, 51, 52, 53, 54, 55, 56, 57, 97, 98, 99, 100, 101, 102])).toList (Int.toNat (bits .and .u32 (Int.fdiv x0 (2 ^ (min (16 : Int).toNat (IntKind.bits .u32)))) 15)) 0) : Nat) : Int)], [((UInt8.toNat (List.getD (ByteArray.data (ByteArray.mk #[48, 49, 50, 51, 52, 53, 54, 55, 56, 57, 97, 98, 99, 100, 101, 102])).toList (Int.toNat (bits .and .u32 (Int.fdiv x0 (2 ^ (min (12 : Int).toNat (IntKind.bits .u32)))) 15)) 0) : Nat) : Int)], [((UInt8.toNat (List.getD (ByteArray.data (ByteArray.mk #[48, 49, 50, 51, 52, 53, 54, 55, 56, 57, 97, 98, 99, 100, 101, 102])).toList (Int.toNat (bits .and .u32 (Int.fdiv x0 (2 ^ (min (8 : Int).toNat (IntKind.bits .u32)))) 15)) 0) : Nat) : Int)], [((UInt8.toNat (List.getD (ByteArray.data (ByteArray.mk #[48, 49, 50, 51, 52, 53, 54, 55, 56, 57, 97, 98, 99, 100, 101, 102])).toList (Int.toNat (bits .and .u32 (Int.fdiv x0 (2 ^ (min (4 : Int).toNat (IntKind.bits .u32)))) 15)) 0) : Nat) : Int)], [((UInt8.toNat (List.getD (ByteArray.data (ByteArray.mk #[48, 49, 50, 51, 52, 53, 54, 55, 56, 57, 97, 98, 99, 100, 101, 102])).toList (Int.toNat (bits .and .u32 (Int.fdiv x0 (2 ^ (min (0 : Int).toNat (IntKind.bits .u32)))) 15)) 0) : Nat) : Int)]] : List (List Int)))))
        none)
       none)
      none)
     none)
    none)
   none)
  none)
 none)
set_option maxRecDepth 100000 in
set_option maxHeartbeats 4000000 in
theorem e32 (x0 : Int) : evFn Tryd.prog ext T13 noL 200 Tryd.f32 [.int .u32 x0] st0 = firstT [((Nat.beq ((r32 x0).1) 0), .string ((r32 x0).2), st0)] :=
 (show evFn Tryd.prog ext T13 noL 200 Tryd.f32 [.int .u32 x0] st0 = w32 x0 from by kernel_rfl).trans
 (show w32 x0 = a32 x0 (r32 x0) from by unfold w32 r32; exact (cond_app (a32 x0) _ (cond_app (a32 x0) _ (cond_app (a32 x0) _ (cond_app (a32 x0) _ (cond_app (a32 x0) _ (cond_app (a32 x0) _ (cond_app (a32 x0) _ (cond_app (a32 x0) _ rfl rfl) rfl) rfl) rfl) rfl) rfl) rfl) rfl))
noncomputable def s32 (args : List Value) (s : St) : List (Bool × Value × St) :=
 match args, s.h with
 | [.int .u32 x0], [] => [((Nat.beq ((r32 x0).1) 0), .string ((r32 x0).2), st0)]
 | _, _ => T13 32 args s
noncomputable def T14 : CallF := addF T13 32 s32
set_option maxRecDepth 100000 in
set_option maxHeartbeats 4000000 in
theorem ok14 : CfOk Tryd.prog T14 := by
  refine cfOk_add ok13 fun args s r s' h1 h2 h3 => ?_
  unfold s32 at h3; split at h3
  · rename_i h; exact callOk ok13 Tryd.func32 h1 h2 h (lfOkF_no _ _).body (e32 _) rfl h3
  · exact ok13 _ _ _ _ _ h1 h2 h3

/-- impl.NumberText -/
noncomputable def r23 (x0 : Nat) : Nat × ByteArray :=
 cond (!feq .f32 x0 x0)
  (0, (ByteArray.mk #[55, 102, 99, 48, 48, 48, 48, 48]))
  (cond (Nat.beq ((r32 ((x0 : Nat) : Int)).1) 0)
   (0, ((r32 ((x0 : Nat) : Int)).2))
   (1, ByteArray.empty))
noncomputable def a23 (x0 : Nat) (p : Nat × ByteArray) : Res := firstT [((Nat.beq (p.1) 0), .string (p.2), st0)]
noncomputable def w23 (x0 : Nat) : Res :=
 (cond (!feq .f32 x0 x0)
 (a23 x0 (0, (ByteArray.mk #[55, 102, 99, 48, 48, 48, 48, 48])))
 (cond (!isN .f32 x0)
  (cond (Nat.beq ((r32 ((x0 : Nat) : Int)).1) 0)
   (a23 x0 (0, ((r32 ((x0 : Nat) : Int)).2)))
   none)
  none))
set_option maxRecDepth 100000 in
set_option maxHeartbeats 4000000 in
theorem e23 (x0 : Nat) : evFn Tryd.prog ext T14 noL 200 Tryd.f23 [.float .f32 x0] st0 = firstT [((Nat.beq ((r23 x0).1) 0), .string ((r23 x0).2), st0)] :=
 (show evFn Tryd.prog ext T14 noL 200 Tryd.f23 [.float .f32 x0] st0 = w23 x0 from by kernel_rfl).trans
 (show w23 x0 = a23 x0 (r23 x0) from by unfold w23 r23; exact (cond_both (a23 x0) _ (fun h0 => rfl) (fun h0 => (cond_t (ev_not1 (ev_eq1 (ev_notf h0))) (cond_app (a23 x0) _ rfl rfl)))))
noncomputable def s23 (args : List Value) (s : St) : List (Bool × Value × St) :=
 match args, s.h with
 | [.float .f32 x0], [] => [((Nat.beq ((r23 x0).1) 0), .string ((r23 x0).2), st0)]
 | _, _ => T14 23 args s
noncomputable def T15 : CallF := addF T14 23 s23
set_option maxRecDepth 100000 in
set_option maxHeartbeats 4000000 in
theorem ok15 : CfOk Tryd.prog T15 := by
  refine cfOk_add ok14 fun args s r s' h1 h2 h3 => ?_
  unfold s23 at h3; split at h3
  · rename_i h; exact callOk ok14 Tryd.func23 h1 h2 h (lfOkF_no _ _).body (e23 _) rfl h3
  · exact ok14 _ _ _ _ _ h1 h2 h3

/-- impl.ReadNumber -/
noncomputable def r20 (x0 : ByteArray) : Nat × Nat × Int :=
 cond (Nat.beq ((r29 x0).1) 0)
  (cond (!((r29 x0).2.2))
   (0, 0, 5)
   (cond (Nat.beq ((r23 (Int.toNat ((r29 x0).2.1))).1) 0)
    (cond (!(((r23 (Int.toNat ((r29 x0).2.1))).2).toList == x0.toList))
     (0, 0, 5)
     (0, (Int.toNat ((r29 x0).2.1)), 0))
    (1, 0, 0)))
  (1, 0, 0)
noncomputable def a20 (x0 : ByteArray) (p : Nat × Nat × Int) : Res := firstT [((Nat.beq (p.1) 0), .tuple #[.float .f32 (p.2.1), .int .i64 (p.2.2)], st0)]
noncomputable def w20 (x0 : ByteArray) : Res :=
 (cond (Nat.beq ((r29 x0).1) 0)
 (cond (!((r29 x0).2.2))
  (a20 x0 (0, 0, 5))
  (cond (Nat.beq ((r23 (Int.toNat ((r29 x0).2.1))).1) 0)
   (cond (!(((r23 (Int.toNat ((r29 x0).2.1))).2).toList == x0.toList))
    (a20 x0 (0, 0, 5))
    (a20 x0 (0, (Int.toNat ((r29 x0).2.1)), 0)))
   none))
 none)
set_option maxRecDepth 100000 in
set_option maxHeartbeats 4000000 in
theorem e20 (x0 : ByteArray) : evFn Tryd.prog ext T15 noL 200 Tryd.f20 [.string x0] st0 = firstT [((Nat.beq ((r20 x0).1) 0), .tuple #[.float .f32 ((r20 x0).2.1), .int .i64 ((r20 x0).2.2)], st0)] :=
 (show evFn Tryd.prog ext T15 noL 200 Tryd.f20 [.string x0] st0 = w20 x0 from by kernel_rfl).trans
 (show w20 x0 = a20 x0 (r20 x0) from by unfold w20 r20; exact (cond_app (a20 x0) _ (cond_app (a20 x0) _ rfl (cond_app (a20 x0) _ (cond_app (a20 x0) _ rfl rfl) rfl)) rfl))
noncomputable def s20 (args : List Value) (s : St) : List (Bool × Value × St) :=
 match args, s.h with
 | [.string x0], [] => [((Nat.beq ((r20 x0).1) 0), .tuple #[.float .f32 ((r20 x0).2.1), .int .i64 ((r20 x0).2.2)], st0)]
 | _, _ => T15 20 args s
noncomputable def T16 : CallF := addF T15 20 s20
set_option maxRecDepth 100000 in
set_option maxHeartbeats 4000000 in
theorem ok16 : CfOk Tryd.prog T16 := by
  refine cfOk_add ok15 fun args s r s' h1 h2 h3 => ?_
  unfold s20 at h3; split at h3
  · rename_i h; exact callOk ok15 Tryd.func20 h1 h2 h (lfOkF_no _ _).body (e20 _) rfl h3
  · exact ok15 _ _ _ _ _ h1 h2 h3

/-- (*impl.words).number -/
noncomputable def r10 (x0 x1 : Nat) (x2 : Bool) (x3 : List ByteArray) : Nat × Nat × Nat × Nat × Bool :=
 cond (Nat.beq ((r19 x0 x1 x2 x3).1) 0)
  (cond (Nat.beq ((r20 ((r19 x0 x1 x2 x3).2.1)).1) 0)
   (cond ((r19 x0 x1 x2 x3).2.2.2.2)
    (0, ((r20 ((r19 x0 x1 x2 x3).2.1)).2.1), ((r19 x0 x1 x2 x3).2.2.1), ((r19 x0 x1 x2 x3).2.2.2.1), true)
    (0, ((r20 ((r19 x0 x1 x2 x3).2.1)).2.1), ((r19 x0 x1 x2 x3).2.2.1), ((r19 x0 x1 x2 x3).2.2.2.1), ((((r20 ((r19 x0 x1 x2 x3).2.1)).2.2) : Int) != 0)))
   (1, 0, 0, 0, false))
  (1, 0, 0, 0, false)
noncomputable def a10 (x0 x1 : Nat) (x2 : Bool) (x3 : List ByteArray) (p : Nat × Nat × Nat × Nat × Bool) : Res := firstT [((Nat.beq (p.1) 0), .float .f32 (p.2.1), ⟨[⟨true, (some (.cells [rsl ⟨1, (p.2.2.1), some 0⟩ (p.2.2.2.1), .bool (p.2.2.2.2)]))⟩, ⟨true, (some (.strs x3))⟩], 2, [0]⟩)]
noncomputable def w10 (x0 x1 : Nat) (x2 : Bool) (x3 : List ByteArray) : Res :=
 (cond (Nat.beq ((r19 x0 x1 x2 x3).1) 0)
 (cond (Nat.beq ((r20 ((r19 x0 x1 x2 x3).2.1)).1) 0)
  (cond ((r19 x0 x1 x2 x3).2.2.2.2)
   (a10 x0 x1 x2 x3 (0, ((r20 ((r19 x0 x1 x2 x3).2.1)).2.1), ((r19 x0 x1 x2 x3).2.2.1), ((r19 x0 x1 x2 x3).2.2.2.1), true))
   (a10 x0 x1 x2 x3 (0, ((r20 ((r19 x0 x1 x2 x3).2.1)).2.1), ((r19 x0 x1 x2 x3).2.2.1), ((r19 x0 x1 x2 x3).2.2.2.1), ((((r20 ((r19 x0 x1 x2 x3).2.1)).2.2) : Int) != 0))))
  none)
 none)
set_option maxRecDepth 100000 in
set_option maxHeartbeats 4000000 in
theorem e10 (x0 x1 : Nat) (x2 : Bool) (x3 : List ByteArray) : evFn Tryd.prog ext T16 noL 200 Tryd.f10 [.pointer (some ⟨0, 0, some 0⟩)] ⟨[⟨true, (some (.cells [rsl ⟨1, x0, some 0⟩ x1, .bool x2]))⟩, ⟨true, (some (.strs x3))⟩], 2, []⟩ = firstT [((Nat.beq ((r10 x0 x1 x2 x3).1) 0), .float .f32 ((r10 x0 x1 x2 x3).2.1), ⟨[⟨true, (some (.cells [rsl ⟨1, ((r10 x0 x1 x2 x3).2.2.1), some 0⟩ ((r10 x0 x1 x2 x3).2.2.2.1), .bool ((r10 x0 x1 x2 x3).2.2.2.2)]))⟩, ⟨true, (some (.strs x3))⟩], 2, [0]⟩)] :=
 (show evFn Tryd.prog ext T16 noL 200 Tryd.f10 [.pointer (some ⟨0, 0, some 0⟩)] ⟨[⟨true, (some (.cells [rsl ⟨1, x0, some 0⟩ x1, .bool x2]))⟩, ⟨true, (some (.strs x3))⟩], 2, []⟩ = w10 x0 x1 x2 x3 from by kernel_rfl).trans
 (show w10 x0 x1 x2 x3 = a10 x0 x1 x2 x3 (r10 x0 x1 x2 x3) from by unfold w10 r10; exact (cond_app (a10 x0 x1 x2 x3) _ (cond_app (a10 x0 x1 x2 x3) _ (cond_app (a10 x0 x1 x2 x3) _ rfl rfl) rfl) rfl))
noncomputable def s10 (args : List Value) (s : St) : List (Bool × Value × St) :=
 match args, s.h with
 | [.pointer (some ⟨f0, f1, some f2⟩)], [⟨true, some (.cells [.iface x1 (.pointer (some ⟨f3, x0, some f4⟩)), .bool x2])⟩, ⟨true, some (.strs x3)⟩] => if f0 = 0 ∧ f1 = 0 ∧ f2 = 0 ∧ f3 = 1 ∧ f4 = 0 then [((Nat.beq ((r10 x0 x1 x2 x3).1) 0), .float .f32 ((r10 x0 x1 x2 x3).2.1), ⟨[⟨true, (some (.cells [rsl ⟨1, ((r10 x0 x1 x2 x3).2.2.1), some 0⟩ ((r10 x0 x1 x2 x3).2.2.2.1), .bool ((r10 x0 x1 x2 x3).2.2.2.2)]))⟩, ⟨true, (some (.strs x3))⟩], 2, [0]⟩)] else T16 10 args s
 | _, _ => T16 10 args s
noncomputable def T17 : CallF := addF T16 10 s10
set_option maxRecDepth 100000 in
set_option maxHeartbeats 4000000 in
theorem ok17 : CfOk Tryd.prog T17 := by
  refine cfOk_add ok16 fun args s r s' h1 h2 h3 => ?_
  unfold s10 at h3; split at h3
  · rename_i h; split at h3
    · rename_i hc; obtain ⟨rfl, rfl, rfl, rfl, rfl⟩ := hc; exact callOk ok16 Tryd.func10 h1 h2 h (lfOkF_no _ _).body (e10 _ _ _ _) rfl h3
    · exact ok16 _ _ _ _ _ h1 h2 h3
  · exact ok16 _ _ _ _ _ h1 h2 h3

/-- (*impl.words).done -/
noncomputable def r11 (x0 x1 : Nat) (x2 : Bool) (x3 : List ByteArray) : Bool :=
 cond (!x2)
  (((((x1 : Nat) : Int) : Int) == 0))
  (false)
noncomputable def a11 (x0 x1 : Nat) (x2 : Bool) (x3 : List ByteArray) (p : Bool) : Res := firstT [(true, .bool p, ⟨[⟨true, (some (.cells [rsl ⟨1, x0, some 0⟩ x1, .bool x2]))⟩, ⟨true, (some (.strs x3))⟩], 2, []⟩)]
noncomputable def w11 (x0 x1 : Nat) (x2 : Bool) (x3 : List ByteArray) : Res :=
 (cond (!x2)
 (a11 x0 x1 x2 x3 (((((x1 : Nat) : Int) : Int) == 0)))
 (a11 x0 x1 x2 x3 (false)))
set_option maxRecDepth 100000 in
set_option maxHeartbeats 4000000 in
theorem e11 (x0 x1 : Nat) (x2 : Bool) (x3 : List ByteArray) : evFn Tryd.prog ext T17 noL 200 Tryd.f11 [.pointer (some ⟨0, 0, some 0⟩)] ⟨[⟨true, (some (.cells [rsl ⟨1, x0, some 0⟩ x1, .bool x2]))⟩, ⟨true, (some (.strs x3))⟩], 2, []⟩ = firstT [(true, .bool (r11 x0 x1 x2 x3), ⟨[⟨true, (some (.cells [rsl ⟨1, x0, some 0⟩ x1, .bool x2]))⟩, ⟨true, (some (.strs x3))⟩], 2, []⟩)] :=
 (show evFn Tryd.prog ext T17 noL 200 Tryd.f11 [.pointer (some ⟨0, 0, some 0⟩)] ⟨[⟨true, (some (.cells [rsl ⟨1, x0, some 0⟩ x1, .bool x2]))⟩, ⟨true, (some (.strs x3))⟩], 2, []⟩ = w11 x0 x1 x2 x3 from by kernel_rfl).trans
 (show w11 x0 x1 x2 x3 = a11 x0 x1 x2 x3 (r11 x0 x1 x2 x3) from by unfold w11 r11; exact (cond_app (a11 x0 x1 x2 x3) _ rfl rfl))
noncomputable def s11 (args : List Value) (s : St) : List (Bool × Value × St) :=
 match args, s.h with
 | [.pointer (some ⟨f0, f1, some f2⟩)], [⟨true, some (.cells [.iface x1 (.pointer (some ⟨f3, x0, some f4⟩)), .bool x2])⟩, ⟨true, some (.strs x3)⟩] => if f0 = 0 ∧ f1 = 0 ∧ f2 = 0 ∧ f3 = 1 ∧ f4 = 0 then [(true, .bool (r11 x0 x1 x2 x3), ⟨[⟨true, (some (.cells [rsl ⟨1, x0, some 0⟩ x1, .bool x2]))⟩, ⟨true, (some (.strs x3))⟩], 2, []⟩)] else T17 11 args s
 | _, _ => T17 11 args s
noncomputable def T18 : CallF := addF T17 11 s11
set_option maxRecDepth 100000 in
set_option maxHeartbeats 4000000 in
theorem ok18 : CfOk Tryd.prog T18 := by
  refine cfOk_add ok17 fun args s r s' h1 h2 h3 => ?_
  unfold s11 at h3; split at h3
  · rename_i h; split at h3
    · rename_i hc; obtain ⟨rfl, rfl, rfl, rfl, rfl⟩ := hc; exact callOk ok17 Tryd.func11 h1 h2 h (lfOkF_no _ _).body (e11 _ _ _ _) rfl h3
    · exact ok17 _ _ _ _ _ h1 h2 h3
  · exact ok17 _ _ _ _ _ h1 h2 h3

/-- math.IsNaN -/
noncomputable def r51 (x0 : Nat) : Bool :=
 ((!feq .f64 x0 x0))
noncomputable def a51 (x0 : Nat) (p : Bool) : Res := firstT [(true, .bool p, st0)]
noncomputable def w51 (x0 : Nat) : Res :=
 (a51 x0 ((!feq .f64 x0 x0)))
set_option maxRecDepth 100000 in
set_option maxHeartbeats 4000000 in
theorem e51 (x0 : Nat) : evFn Tryd.prog ext T18 noL 200 Tryd.f51 [.float .f64 x0] st0 = firstT [(true, .bool (r51 x0), st0)] :=
 (show evFn Tryd.prog ext T18 noL 200 Tryd.f51 [.float .f64 x0] st0 = w51 x0 from by kernel_rfl).trans
 (show w51 x0 = a51 x0 (r51 x0) from by unfold w51 r51; exact rfl)
noncomputable def s51 (args : List Value) (s : St) : List (Bool × Value × St) :=
 match args, s.h with
 | [.float .f64 x0], [] => [(true, .bool (r51 x0), st0)]
 | _, _ => T18 51 args s
noncomputable def T19 : CallF := addF T18 51 s51
set_option maxRecDepth 100000 in
set_option maxHeartbeats 4000000 in
theorem ok19 : CfOk Tryd.prog T19 := by
  refine cfOk_add ok18 fun args s r s' h1 h2 h3 => ?_
  unfold s51 at h3; split at h3
  · rename_i h; exact callOk ok18 Tryd.func51 h1 h2 h (lfOkF_no _ _).body (e51 _) rfl h3
  · exact ok18 _ _ _ _ _ h1 h2 h3

/-- math.Abs -/
noncomputable def r60 (x0 : Nat) : Nat :=
 cond (!isN .f64 x0)
  ((Int.toNat (bits .andNot .u64 ((x0 : Nat) : Int) 9223372036854775808)))
  (9221120237041090560)
noncomputable def a60 (x0 : Nat) (p : Nat) : Res := firstT [(true, .float .f64 p, st0)]
noncomputable def w60 (x0 : Nat) : Res :=
 (cond (!isN .f64 x0)
 (a60 x0 ((Int.toNat (bits .andNot .u64 ((x0 : Nat) : Int) 9223372036854775808))))
 (a60 x0 (9221120237041090560)))
set_option maxRecDepth 100000 in
set_option maxHeartbeats 4000000 in
theorem e60 (x0 : Nat) : evFn Tryd.prog ext T19 noL 200 Tryd.f60 [.float .f64 x0] st0 = firstT [(true, .float .f64 (r60 x0), st0)] :=
 (show evFn Tryd.prog ext T19 noL 200 Tryd.f60 [.float .f64 x0] st0 = w60 x0 from by kernel_rfl).trans
 (show w60 x0 = a60 x0 (r60 x0) from by unfold w60 r60; exact (cond_app (a60 x0) _ rfl rfl))
noncomputable def s60 (args : List Value) (s : St) : List (Bool × Value × St) :=
 match args, s.h with
 | [.float .f64 x0], [] => [(true, .float .f64 (r60 x0), st0)]
 | _, _ => T19 60 args s
noncomputable def T20 : CallF := addF T19 60 s60
set_option maxRecDepth 100000 in
set_option maxHeartbeats 4000000 in
theorem ok20 : CfOk Tryd.prog T20 := by
  refine cfOk_add ok19 fun args s r s' h1 h2 h3 => ?_
  unfold s60 at h3; split at h3
  · rename_i h; exact callOk ok19 Tryd.func60 h1 h2 h (lfOkF_no _ _).body (e60 _) rfl h3
  · exact ok19 _ _ _ _ _ h1 h2 h3

/-- math.IsInf -/
noncomputable def r52 (x0 : Nat) (x1 : Int) : Bool :=
 cond ((x1 : Int) == 0)
  ((fgt .f64 (r60 x0) 9218868437227405311))
  (cond (decide ((x1 : Int) < 0))
   ((fgt .f64 (fneg .f64 x0) 9218868437227405311))
   ((fgt .f64 x0 9218868437227405311)))
noncomputable def a52 (x0 : Nat) (x1 : Int) (p : Bool) : Res := firstT [(true, .bool p, st0)]
noncomputable def w52 (x0 : Nat) (x1 : Int) : Res :=
 (cond ((x1 : Int) == 0)
 (a52 x0 x1 ((fgt .f64 (r60 x0) 9218868437227405311)))
 (cond (decide ((x1 : Int) < 0))
  (a52 x0 x1 ((fgt .f64 (fneg .f64 x0) 9218868437227405311)))
  (a52 x0 x1 ((fgt .f64 x0 9218868437227405311)))))
set_option maxRecDepth 100000 in
set_option maxHeartbeats 4000000 in
theorem e52 (x0 : Nat) (x1 : Int) : evFn Tryd.prog ext T20 noL 200 Tryd.f52 [.float .f64 x0, .int .i64 x1] st0 = firstT [(true, .bool (r52 x0 x1), st0)] :=
 (show evFn Tryd.prog ext T20 noL 200 Tryd.f52 [.float .f64 x0, .int .i64 x1] st0 = w52 x0 x1 from by kernel_rfl).trans
 (show w52 x0 x1 = a52 x0 x1 (r52 x0 x1) from by unfold w52 r52; exact (cond_app (a52 x0 x1) _ rfl (cond_app (a52 x0 x1) _ rfl rfl)))
noncomputable def s52 (args : List Value) (s : St) : List (Bool × Value × St) :=
 match args, s.h with
 | [.float .f64 x0, .int .i64 x1], [] => [(true, .bool (r52 x0 x1), st0)]
 | _, _ => T20 52 args s
noncomputable def T21 : CallF := addF T20 52 s52
set_option maxRecDepth 100000 in
set_option maxHeartbeats 4000000 in
theorem ok21 : CfOk Tryd.prog T21 := by
  refine cfOk_add ok20 fun args s r s' h1 h2 h3 => ?_
  unfold s52 at h3; split at h3
  · rename_i h; exact callOk ok20 Tryd.func52 h1 h2 h (lfOkF_no _ _).body (e52 _ _) rfl h3
  · exact ok20 _ _ _ _ _ h1 h2 h3

/-- impl.isFinite -/
noncomputable def r43 (x0 : Nat) : Bool :=
 cond (r51 (widen x0))
  (false)
  (cond (r52 (widen x0) 0)
   (false)
   (true))
noncomputable def a43 (x0 : Nat) (p : Bool) : Res := firstT [(true, .bool p, ⟨[⟨true, (some (.tab [.fl .f32] ([[((x0 : Nat) : Int)]] : List (List Int))))⟩], 1, []⟩)]
noncomputable def w43 (x0 : Nat) : Res :=
 (cond (r51 (widen x0))
 (a43 x0 (false))
 (cond (r52 (widen x0) 0)
  (a43 x0 (false))
  (a43 x0 (true))))
set_option maxRecDepth 100000 in
set_option maxHeartbeats 4000000 in
theorem e43 (x0 : Nat) : evFn Tryd.prog ext T21 noL 200 Tryd.f43 [.slice (some ⟨0, 0, some 0⟩) 1 1] ⟨[⟨true, (some (.tab [.fl .f32] ([[((x0 : Nat) : Int)]] : List (List Int))))⟩], 1, []⟩ = firstT [(true, .bool (r43 x0), ⟨[⟨true, (some (.tab [.fl .f32] ([[((x0 : Nat) : Int)]] : List (List Int))))⟩], 1, []⟩)] :=
 (show evFn Tryd.prog ext T21 noL 200 Tryd.f43 [.slice (some ⟨0, 0, some 0⟩) 1 1] ⟨[⟨true, (some (.tab [.fl .f32] ([[((x0 : Nat) : Int)]] : List (List Int))))⟩], 1, []⟩ = w43 x0 from by kernel_rfl).trans
 (show w43 x0 = a43 x0 (r43 x0) from by unfold w43 r43; exact (cond_app (a43 x0) _ rfl (cond_app (a43 x0) _ rfl rfl)))
noncomputable def s43 (args : List Value) (s : St) : List (Bool × Value × St) :=
 match args, s.h with
 | [.slice (some ⟨f0, f1, some f2⟩) f3 f4], [⟨true, some (.tab [.fl .f32] [[.ofNat x0]])⟩] => if f0 = 0 ∧ f1 = 0 ∧ f2 = 0 ∧ f3 = 1 ∧ f4 = 1 then [(true, .bool (r43 x0), ⟨[⟨true, (some (.tab [.fl .f32] ([[((x0 : Nat) : Int)]] : List (List Int))))⟩], 1, []⟩)] else T21 43 args s
 | _, _ => T21 43 args s
noncomputable def T22 : CallF := addF T21 43 s43
set_option maxRecDepth 100000 in
set_option maxHeartbeats 4000000 in
theorem ok22 : CfOk Tryd.prog T22 := by
  refine cfOk_add ok21 fun args s r s' h1 h2 h3 => ?_
  unfold s43 at h3; split at h3
  · rename_i h; split at h3
    · rename_i hc; obtain ⟨rfl, rfl, rfl, rfl, rfl⟩ := hc; exact callOk ok21 Tryd.func43 h1 h2 h (lfOkF_no _ _).body (e43 _) rfl h3
    · exact ok21 _ _ _ _ _ h1 h2 h3
  · exact ok21 _ _ _ _ _ h1 h2 h3

/-- impl.IsAmount -/
noncomputable def r31 (x0 : Nat) : Bool :=
 cond (r43 x0)
  (cond (fgt .f32 x0 0 || feq .f32 x0 0)
   ((((Int.fdiv ((x0 : Nat) : Int) (2 ^ (min (31 : Int).toNat (IntKind.bits .u32)))) : Int) == 0))
   (false))
  (false)
noncomputable def a31 (x0 : Nat) (p : Bool) : Res := firstT [(true, .bool p, st0)]
noncomputable def w31 (x0 : Nat) : Res :=
 (cond (r43 x0)
 (cond (fgt .f32 x0 0 || feq .f32 x0 0)
  (cond (!isN .f32 x0)
   (a31 x0 ((((Int.fdiv ((x0 : Nat) : Int) (2 ^ (min (31 : Int).toNat (IntKind.bits .u32)))) : Int) == 0)))
   none)
  (a31 x0 (false)))
 (a31 x0 (false)))
set_option maxRecDepth 100000 in
set_option maxHeartbeats 4000000 in
theorem e31 (x0 : Nat) : evFn Tryd.prog ext T22 noL 200 Tryd.f31 [.float .f32 x0] st0 = firstT [(true, .bool (r31 x0), st0)] :=
 (show evFn Tryd.prog ext T22 noL 200 Tryd.f31 [.float .f32 x0] st0 = w31 x0 from by kernel_rfl).trans
 (show w31 x0 = a31 x0 (r31 x0) from by unfold w31 r31; exact (cond_both (a31 x0) _ (fun h0 => (cond_both (a31 x0) _ (fun h1 => (cond_t (ev_not1 (ev_or h1 (fun hq0 => (ev_gt1 hq0)) (fun hq0 => (ev_eq1 hq0)))) rfl)) (fun h1 => rfl))) (fun h0 => rfl)))
noncomputable def s31 (args : List Value) (s : St) : List (Bool × Value × St) :=
 match args, s.h with
 | [.float .f32 x0], [] => [(true, .bool (r31 x0), st0)]
 | _, _ => T22 31 args s
noncomputable def T23 : CallF := addF T22 31 s31
set_option maxRecDepth 100000 in
set_option maxHeartbeats 4000000 in
theorem ok23 : CfOk Tryd.prog T23 := by
  refine cfOk_add ok22 fun args s r s' h1 h2 h3 => ?_
  unfold s31 at h3; split at h3
  · rename_i h; exact callOk ok22 Tryd.func31 h1 h2 h (lfOkF_no _ _).body (e31 _) rfl h3
  · exact ok22 _ _ _ _ _ h1 h2 h3

/-- impl.isUpTo -/
noncomputable def r21 (x0 x1 : Nat) : Bool :=
 cond (r31 x0)
  ((flt .f32 x0 x1 || feq .f32 x0 x1))
  (false)
noncomputable def a21 (x0 x1 : Nat) (p : Bool) : Res := firstT [(true, .bool p, st0)]
noncomputable def w21 (x0 x1 : Nat) : Res :=
 (cond (r31 x0)
 (a21 x0 x1 ((flt .f32 x0 x1 || feq .f32 x0 x1)))
 (a21 x0 x1 (false)))
set_option maxRecDepth 100000 in
set_option maxHeartbeats 4000000 in
theorem e21 (x0 x1 : Nat) : evFn Tryd.prog ext T23 noL 200 Tryd.f21 [.float .f32 x0, .float .f32 x1] st0 = firstT [(true, .bool (r21 x0 x1), st0)] :=
 (show evFn Tryd.prog ext T23 noL 200 Tryd.f21 [.float .f32 x0, .float .f32 x1] st0 = w21 x0 x1 from by kernel_rfl).trans
 (show w21 x0 x1 = a21 x0 x1 (r21 x0 x1) from by unfold w21 r21; exact (cond_app (a21 x0 x1) _ rfl rfl))
noncomputable def s21 (args : List Value) (s : St) : List (Bool × Value × St) :=
 match args, s.h with
 | [.float .f32 x0, .float .f32 x1], [] => [(true, .bool (r21 x0 x1), st0)]
 | _, _ => T23 21 args s
noncomputable def T24 : CallF := addF T23 21 s21
set_option maxRecDepth 100000 in
set_option maxHeartbeats 4000000 in
theorem ok24 : CfOk Tryd.prog T24 := by
  refine cfOk_add ok23 fun args s r s' h1 h2 h3 => ?_
  unfold s21 at h3; split at h3
  · rename_i h; exact callOk ok23 Tryd.func21 h1 h2 h (lfOkF_no _ _).body (e21 _ _) rfl h3
  · exact ok23 _ _ _ _ _ h1 h2 h3

/-- impl.between -/
noncomputable def r22 (x0 x1 x2 : Nat) : Bool :=
 cond (fgt .f32 x0 x1 || feq .f32 x0 x1)
  ((flt .f32 x0 x2 || feq .f32 x0 x2))
  (false)
noncomputable def a22 (x0 x1 x2 : Nat) (p : Bool) : Res := firstT [(true, .bool p, st0)]
noncomputable def w22 (x0 x1 x2 : Nat) : Res :=
 (cond (fgt .f32 x0 x1 || feq .f32 x0 x1)
 (a22 x0 x1 x2 ((flt .f32 x0 x2 || feq .f32 x0 x2)))
 (a22 x0 x1 x2 (false)))
set_option maxRecDepth 100000 in
set_option maxHeartbeats 4000000 in
theorem e22 (x0 x1 x2 : Nat) : evFn Tryd.prog ext T24 noL 200 Tryd.f22 [.float .f32 x0, .float .f32 x1, .float .f32 x2] st0 = firstT [(true, .bool (r22 x0 x1 x2), st0)] :=
 (show evFn Tryd.prog ext T24 noL 200 Tryd.f22 [.float .f32 x0, .float .f32 x1, .float .f32 x2] st0 = w22 x0 x1 x2 from by kernel_rfl).trans
 (show w22 x0 x1 x2 = a22 x0 x1 x2 (r22 x0 x1 x2) from by unfold w22 r22; exact (cond_app (a22 x0 x1 x2) _ rfl rfl))
noncomputable def s22 (args : List Value) (s : St) : List (Bool × Value × St) :=
 match args, s.h with
 | [.float .f32 x0, .float .f32 x1, .float .f32 x2], [] => [(true, .bool (r22 x0 x1 x2), st0)]
 | _, _ => T24 22 args s
noncomputable def T25 : CallF := addF T24 22 s22
set_option maxRecDepth 100000 in
set_option maxHeartbeats 4000000 in
theorem ok25 : CfOk Tryd.prog T25 := by
  refine cfOk_add ok24 fun args s r s' h1 h2 h3 => ?_
  unfold s22 at h3; split at h3
  · rename_i h; exact callOk ok24 Tryd.func22 h1 h2 h (lfOkF_no _ _).body (e22 _ _ _) rfl h3
  · exact ok24 _ _ _ _ _ h1 h2 h3

/-- impl.ValidWood -/
noncomputable def r12 (x0 x1 x2 x3 x4 x5 x6 x7 x8 x9 x10 x11 x12 x13 x14 x15 x16 x17 : Nat) : Bool :=
 cond (!(r21 x0 1092616192))
  (false)
  (cond (!(r21 x12 1092616192))
   (false)
   (cond (!(r22 x6 3262119936 1153138688))
    (false)
    (cond (!(r21 x1 1092616192))
     (false)
     (cond (!(r21 x13 1092616192))
      (false)
      (cond (!(r22 x7 3262119936 1153138688))
       (false)
       (cond (!(r21 x2 1092616192))
        (false)
        (cond (!(r21 x14 1092616192))
         (false)
         (cond (!(r22 x8 3262119936 1153138688))
          (false)
          (cond (!(r21 x3 1092616192))
           (false)
           (cond (!(r21 x15 1092616192))
            (false)
            (cond (!(r22 x9 3262119936 1153138688))
             (false)
             (cond (!(r21 x4 1092616192))
              (false)
              (cond (!(r21 x16 1092616192))
               (false)
               (cond (!(r22 x10 3262119936 1153138688))
                (false)
                (cond (!(r21 x5 1092616192))
                 (false)
                 (cond (!(r21 x17 1092616192))
                  (false)
                  (cond (!(r22 x11 3262119936 1153138688))
                   (false)
                   (true))))))))))))))))))
noncomputable def a12 (x0 x1 x2 x3 x4 x5 x6 x7 x8 x9 x10 x11 x12 x13 x14 x15 x16 x17 : Nat) (p : Bool) : Res := firstT [(true, .bool p, st0)]
noncomputable def w12 (x0 x1 x2 x3 x4 x5 x6 x7 x8 x9 x10 x11 x12 x13 x14 x15 x16 x17 : Nat) : Res :=
 (cond (!(r21 x0 1092616192))
 (a12 x0 x1 x2 x3 x4 x5 x6 x7 x8 x9 x10 x11 x12 x13 x14 x15 x16 x17 (false))
 (cond (!(r21 x12 1092616192))
  (a12 x0 x1 x2 x3 x4 x5 x6 x7 x8 x9 x10 x11 x12 x13 x14 x15 x16 x17 (false))
  (cond (!(r22 x6 3262119936 1153138688))
   (a12 x0 x1 x2 x3 x4 x5 x6 x7 x8 x9 x10 x11 x12 x13 x14 x15 x16 x17 (false))
   (cond (!(r21 x1 1092616192))
    (a12 x0 x1 x2 x3 x4 x5 x6 x7 x8 x9 x10 x11 x12 x13 x14 x15 x16 x17 (false))
    (cond (!(r21 x13 1092616192))
     (a12 x0 x1 x2 x3 x4 x5 x6 x7 x8 x9 x10 x11 x12 x13 x14 x15 x16 x17 (false))
     (cond (!(r22 x7 3262119936 1153138688))
      (a12 x0 x1 x2 x3 x4 x5 x6 x7 x8 x9 x10 x11 x12 x13 x14 x15 x16 x17 (false))
      (cond (!(r21 x2 1092616192))
       (a12 x0 x1 x2 x3 x4 x5 x6 x7 x8 x9 x10 x11 x12 x13 x14 x15 x16 x17 (false))
       (cond (!(r21 x14 1092616192))
        (a12 x0 x1 x2 x3 x4 x5 x6 x7 x8 x9 x10 x11 x12 x13 x14 x15 x16 x17 (false))
        (cond (!(r22 x8 3262119936 1153138688))
         (a12 x0 x1 x2 x3 x4 x5 x6 x7 x8 x9 x10 x11 x12 x13 x14 x15 x16 x17 (false))
         (cond (!(r21 x3 1092616192))
          (a12 x0 x1 x2 x3 x4 x5 x6 x7 x8 x9 x10 x11 x12 x13 x14 x15 x16 x17 (false))
          (cond (!(r21 x15 1092616192))
           (a12 x0 x1 x2 x3 x4 x5 x6 x7 x8 x9 x10 x11 x12 x13 x14 x15 x16 x17 (false))
           (cond (!(r22 x9 3262119936 1153138688))
            (a12 x0 x1 x2 x3 x4 x5 x6 x7 x8 x9 x10 x11 x12 x13 x14 x15 x16 x17 (false))
            (cond (!(r21 x4 1092616192))
             (a12 x0 x1 x2 x3 x4 x5 x6 x7 x8 x9 x10 x11 x12 x13 x14 x15 x16 x17 (false))
             (cond (!(r21 x16 1092616192))
              (a12 x0 x1 x2 x3 x4 x5 x6 x7 x8 x9 x10 x11 x12 x13 x14 x15 x16 x17 (false))
              (cond (!(r22 x10 3262119936 1153138688))
               (a12 x0 x1 x2 x3 x4 x5 x6 x7 x8 x9 x10 x11 x12 x13 x14 x15 x16 x17 (false))
               (cond (!(r21 x5 1092616192))
                (a12 x0 x1 x2 x3 x4 x5 x6 x7 x8 x9 x10 x11 x12 x13 x14 x15 x16 x17 (false))
                (cond (!(r21 x17 1092616192))
                 (a12 x0 x1 x2 x3 x4 x5 x6 x7 x8 x9 x10 x11 x12 x13 x14 x15 x16 x17 (false))
                 (cond (!(r22 x11 3262119936 1153138688))
                  (a12 x0 x1 x2 x3 x4 x5 x6 x7 x8 x9 x10 x11 x12 x13 x14 x15 x16 x17 (false))
                  (a12 x0 x1 x2 x3 x4 x5 x6 x7 x8 x9 x10 x11 x12 x13 x14 x15 x16 x17 (true))))))))))))))))))))
set_option maxRecDepth 100000 in
set_option maxHeartbeats 4000000 in
theorem e12 (x0 x1 x2 x3 x4 x5 x6 x7 x8 x9 x10 x11 x12 x13 x14 x15 x16 x17 : Nat) : evFn Tryd.prog ext T25 noL 200 Tryd.f12 [.agg #[.float .f32 x0, .float .f32 x1, .float .f32 x2, .float .f32 x3, .float .f32 x4, .float .f32 x5, .float .f32 x6, .float .f32 x7, .float .f32 x8, .float .f32 x9, .float .f32 x10, .float .f32 x11, .float .f32 x12, .float .f32 x13, .float .f32 x14, .float .f32 x15, .float .f32 x16, .float .f32 x17]] st0 = firstT [(true, .bool (r12 x0 x1 x2 x3 x4 x5 x6 x7 x8 x9 x10 x11 x12 x13 x14 x15 x16 x17), st0)] :=
 (show evFn Tryd.prog ext T25 noL 200 Tryd.f12 [.agg #[.float .f32 x0, .float .f32 x1, .float .f32 x2, .float .f32 x3, .float .f32 x4, .float .f32 x5, .float .f32 x6, .float .f32 x7, .float .f32 x8, .float .f32 x9, .float .f32 x10, .float .f32 x11, .float .f32 x12, .float .f32 x13, .float .f32 x14, .float .f32 x15, .float .f32 x16, .float .f32 x17]] st0 = w12 x0 x1 x2 x3 x4 x5 x6 x7 x8 x9 x10 x11 x12 x13 x14 x15 x16 x17 from by kernel_rfl).trans
 (show w12 x0 x1 x2 x3 x4 x5 x6 x7 x8 x9 x10 x11 x12 x13 x14 x15 x16 x17 = a12 x0 x1 x2 x3 x4 x5 x6 x7 x8 x9 x10 x11 x12 x13 x14 x15 x16 x17 (r12 x0 x1 x2 x3 x4 x5 x6 x7 x8 x9 x10 x11 x12 x13 x14 x15 x16 x17) from by unfold w12 r12; exact (cond_app (a12 x0 x1 x2 x3 x4 x5 x6 x7 x8 x9 x10 x11 x12 x13 x14 x15 x16 x17) _ rfl (cond_app (a12 x0 x1 x2 x3 x4 x5 x6 x7 x8 x9 x10 x11 x12 x13 x14 x15 x16 x17) _ rfl (cond_app (a12 x0 x1 x2 x3 x4 x5 x6 x7 x8 x9 x10 x11 x12 x13 x14 x15 x16 x17) _ rfl (cond_app (a12 x0 x1 x2 x3 x4 x5 x6 x7 x8 x9 x10 x11 x12 x13 x14 x15 x16 x17) _ rfl (cond_app (a12 x0 x1 x2 x3 x4 x5 x6 x7 x8 x9 x10 x11 x12 x13 x14 x15 x16 x17) _ rfl (cond_app (a12 x0 x1 x2 x3 x4 x5 x6 x7 x8 x9 x10 x11 x12 x13 x14 x15 x16 x17) _ rfl (cond_app (a12 x0 x1 x2 x3 x4 x5 x6 x7 x8 x9 x10 x11 x12 x13 x14 x15 x16 x17) _ rfl (cond_app (a12 x0 x1 x2 x3 x4 x5 x6 x7 x8 x9 x10 x11 x12 x13 x14 x15 x16 x17) _ rfl (cond_app (a12 x0 x1 x2 x3 x4 x5 x6 x7 x8 x9 x10 x11 x12 x13 x14 x15 x16 x17) _ rfl (cond_app (a12 x0 x1 x2 x3 x4 x5 x6 x7 x8 x9 x10 x11 x12 x13 x14 x15 x16 x17) _ rfl (cond_app (a12 x0 x1 x2 x3 x4 x5 x6 x7 x8 x9 x10 x11 x12 x13 x14 x15 x16 x17) _ rfl (cond_app (a12 x0 x1 x2 x3 x4 x5 x6 x7 x8 x9 x10 x11 x12 x13 x14 x15 x16 x17) _ rfl (cond_app (a12 x0 x1 x2 x3 x4 x5 x6 x7 x8 x9 x10 x11 x12 x13 x14 x15 x16 x17) _ rfl (cond_app (a12 x0 x1 x2 x3 x4 x5 x6 x7 x8 x9 x10 x11 x12 x13 x14 x15 x16 x17) _ rfl (cond_app (a12 x0 x1 x2 x3 x4 x5 x6 x7 x8 x9 x10 x11 x12 x13 x14 x15 x16 x17) _ rfl (cond_app (a12 x0 x1 x2 x3 x4 x5 x6 x7 x8 x9 x10 x11 x12 x13 x14 x15 x16 x17) _ rfl (cond_app (a12 x0 x1 x2 x3 x4 x5 x6 x7 x8 x9 x10 x11 x12 x13 x14 x15 x16 x17) _ rfl (cond_app (a12 x0 x1 x2 x3 x4 x5 x6 x7 x8 x9 x10 x11 x12 x13 x14 x15 x16 x17) _ rfl rfl)))))))))))))))))))
noncomputable def s12 (args : List Value) (s : St) : List (Bool × Value × St) :=
 match args, s.h with
 | [.agg ⟨[.float .f32 x0, .float .f32 x1, .float .f32 x2, .float .f32 x3, .float .f32 x4, .float .f32 x5, .float .f32 x6, .float .f32 x7, .float .f32 x8, .float .f32 x9, .float .f32 x10, .float .f32 x11, .float .f32 x12, .float .f32 x13, .float .f32 x14, .float .f32 x15, .float .f32 x16, .float .f32 x17]⟩], [] => [(true, .bool (r12 x0 x1 x2 x3 x4 x5 x6 x7 x8 x9 x10 x11 x12 x13 x14 x15 x16 x17), st0)]
 | _, _ => T25 12 args s
noncomputable def T26 : CallF := addF T25 12 s12
set_option maxRecDepth 100000 in
set_option maxHeartbeats 4000000 in
theorem ok26 : CfOk Tryd.prog T26 := by
  refine cfOk_add ok25 fun args s r s' h1 h2 h3 => ?_
  unfold s12 at h3; split at h3
  · rename_i h; exact callOk ok25 Tryd.func12 h1 h2 h (lfOkF_no _ _).body (e12 _ _ _ _ _ _ _ _ _ _ _ _ _ _ _ _ _ _) rfl h3
  · exact ok25 _ _ _ _ _ h1 h2 h3

/-- impl.woodText -/
noncomputable def r13 (x0 x1 x2 x3 x4 x5 x6 x7 x8 x9 x10 x11 x12 x13 x14 x15 x16 x17 : Nat) : Nat × ByteArray :=
 cond (Nat.beq ((r23 x0).1) 0)
  (cond (Nat.beq ((r23 x6).1) 0)
   (cond (Nat.beq ((r23 x12).1) 0)
    (cond (Nat.beq ((r23 x1).1) 0)
     (cond (Nat.beq ((r23 x7).1) 0)
      (cond (Nat.beq ((r23 x13).1) 0)
       (cond (Nat.beq ((r23 x2).1) 0)
        (cond (Nat.beq ((r23 x8).1) 0)
         (cond (Nat.beq ((r23 x14).1) 0)
          (cond (Nat.beq ((r23 x3).1) 0)
           (cond (Nat.beq ((r23 x9).1) 0)
            (cond (Nat.beq ((r23 x15).1) 0)
             (cond (Nat.beq ((r23 x4).1) 0)
              (cond (Nat.beq ((r23 x10).1) 0)
               (cond (Nat.beq ((r23 x16).1) 0)
                (cond (Nat.beq ((r23 x5).1) 0)
                 (cond (Nat.beq ((r23 x11).1) 0)
                  (cond (Nat.beq ((r23 x17).1) 0)
                   (cond (joinOk ([(ByteArray.mk #[108, 111, 103]), ((r23 x0).2), ((r23 x6).2), ((r23 x12).2), ((r23 x1).2), ((r23 x7).2), ((r23 x13).2), ((r23 x2).2), ((r23 x8).2), ((r23 x14).2), ((r23 x3).2), ((r23 x9).2), ((r23 x15).2), ((r23 x4).2), ((r23 x10).2), ((r23 x16).2), ((r23 x5).2), ((r23 x11).2), ((r23 x17).2)] : List ByteArray) (ByteArray.mk #[32]))
                    (0, (joinB ([(ByteArray.mk #[108, 111, 103]), ((r23 x0).2), ((r23 x6).2), ((r23 x12).2), ((r23 x1).2), ((r23 x7).2), ((r23 x13).2), ((r23 x2).2), ((r23 x8).2), ((r23 x14).2), ((r23 x3).2), ((r23 x9).2), ((r23 x15).2), ((r23 x4).2), ((r23 x10).2), ((r23 x16).2), ((r23 x5).2), ((r23 x11).2), ((r23 x17).2)] : List ByteArray) (ByteArray.mk #[32])))
                    (1, ByteArray.empty))
                   (1, ByteArray.empty))
                  (1, ByteArray.empty))
                 (1, ByteArray.empty))
                (1, ByteArray.empty))
               (1, ByteArray.empty))
              (1, ByteArray.empty))
             (1, ByteArray.empty))
            (1, ByteArray.empty))
           (1, ByteArray.empty))
          (1, ByteArray.empty))
         (1, ByteArray.empty))
        (1, ByteArray.empty))
       (1, ByteArray.empty))
      (1, ByteArray.empty))
     (1, ByteArray.empty))
    (1, ByteArray.empty))
   (1, ByteArray.empty))
  (1, ByteArray.empty)
noncomputable def a13 (x0 x1 x2 x3 x4 x5 x6 x7 x8 x9 x10 x11 x12 x13 x14 x15 x16 x17 : Nat) (p : Nat × ByteArray) : Res := firstT [((Nat.beq (p.1) 0), .string (p.2), st0)]
noncomputable def w13 (x0 x1 x2 x3 x4 x5 x6 x7 x8 x9 x10 x11 x12 x13 x14 x15 x16 x17 : Nat) : Res :=
 (cond (Nat.beq ((r23 x0).1) 0)
 (cond (Nat.beq ((r23 x6).1) 0)
  (cond (Nat.beq ((r23 x12).1) 0)
   (cond (Nat.beq ((r23 x1).1) 0)
    (cond (Nat.beq ((r23 x7).1) 0)
     (cond (Nat.beq ((r23 x13).1) 0)
      (cond (Nat.beq ((r23 x2).1) 0)
       (cond (Nat.beq ((r23 x8).1) 0)
        (cond (Nat.beq ((r23 x14).1) 0)
         (cond (Nat.beq ((r23 x3).1) 0)
          (cond (Nat.beq ((r23 x9).1) 0)
           (cond (Nat.beq ((r23 x15).1) 0)
            (cond (Nat.beq ((r23 x4).1) 0)
             (cond (Nat.beq ((r23 x10).1) 0)
              (cond (Nat.beq ((r23 x16).1) 0)
               (cond (Nat.beq ((r23 x5).1) 0)
                (cond (Nat.beq ((r23 x11).1) 0)
                 (cond (Nat.beq ((r23 x17).1) 0)
                  (cond (joinOk ([(ByteArray.mk #[108, 111, 103]), ((r23 x0).2), ((r23 x6).2), ((r23 x12).2), ((r23 x1).2), ((r23 x7).2), ((r23 x13).2), ((r23 x2).2), ((r23 x8).2), ((r23 x14).2), ((r23 x3).2), ((r23 x9).2), ((r23 x15).2), ((r23 x4).2), ((r23 x10).2), ((r23 x16).2), ((r23 x5).2), ((r23 x11).2), ((r23 x17).2)] : List ByteArray) (ByteArray.mk #[32]))
                   (a13 x0 x1 x2 x3 x4 x5 x6 x7 x8 x9 x10 x11 x12 x13 x14 x15 x16 x17 (0, (joinB ([(ByteArray.mk #[108, 111, 103]), ((r23 x0).2), ((r23 x6).2), ((r23 x12).2), ((r23 x1).2), ((r23 x7).2), ((r23 x13).2), ((r23 x2).2), ((r23 x8).2), ((r23 x14).2), ((r23 x3).2), ((r23 x9).2), ((r23 x15).2), ((r23 x4).2), ((r23 x10).2), ((r23 x16).2), ((r23 x5).2), ((r23 x11).2), ((r23 x17).2)] : List ByteArray) (ByteArray.mk #[32]))))
                   none)
                  none)
                 none)
                none)
               none)
              none)
             none)
            none)
           none)
          none)
         none)
        none)
       none)
      none)
     none)
    none)
   none)
  none)
 none)
set_option maxRecDepth 100000 in
set_option maxHeartbeats 4000000 in
theorem e13 (x0 x1 x2 x3 x4 x5 x6 x7 x8 x9 x10 x11 x12 x13 x14 x15 x16 x17 : Nat) : evFn Tryd.prog ext T26 noL 200 Tryd.f13 [.agg #[.float .f32 x0, .float .f32 x1, .float .f32 x2, .float .f32 x3, .float .f32 x4, .float .f32 x5, .float .f32 x6, .float .f32 x7, .float .f32 x8, .float .f32 x9, .float .f32 x10, .float .f32 x11, .float .f32 x12, .float .f32 x13, .float .f32 x14, .float .f32 x15, .float .f32 x16, .float .f32 x17]] st0 = firstT [((Nat.beq ((r13 x0 x1 x2 x3 x4 x5 x6 x7 x8 x9 x10 x11 x12 x13 x14 x15 x16 x17).1) 0), .string ((r13 x0 x1 x2 x3 x4 x5 x6 x7 x8 x9 x10 x11 x12 x13 x14 x15 x16 x17).2), st0)] :=
 (show evFn Tryd.prog ext T26 noL 200 Tryd.f13 [.agg #[.float .f32 x0, .float .f32 x1, .float .f32 x2, .float .f32 x3, .float .f32 x4, .float .f32 x5, .float .f32 x6, .float .f32 x7, .float .f32 x8, .float .f32 x9, .float .f32 x10, .float .f32 x11, .float .f32 x12, .float .f32 x13, .float .f32 x14, .float .f32 x15, .float .f32 x16, .float .f32 x17]] st0 = w13 x0 x1 x2 x3 x4 x5 x6 x7 x8 x9 x10 x11 x12 x13 x14 x15 x16 x17 from by kernel_rfl).trans
 (show w13 x0 x1 x2 x3 x4 x5 x6 x7 x8 x9 x10 x11 x12 x13 x14 x15 x16 x17 = a13 x0 x1 x2 x3 x4 x5 x6 x7 x8 x9 x10 x11 x12 x13 x14 x15 x16 x17 (r13 x0 x1 x2 x3 x4 x5 x6 x7 x8 x9 x10 x11 x12 x13 x14 x15 x16 x17) from by unfold w13 r13; exact (cond_app (a13 x0 x1 x2 x3 x4 x5 x6 x7 x8 x9 x10 x11 x12 x13 x14 x15 x16 x17) _ (cond_app (a13 x0 x1 x2 x3 x4 x5 x6 x7 x8 x9 x10 x11 x12 x13 x14 x15 x16 x17) _ (cond_app (a13 x0 x1 x2 x3 x4 x5 x6 x7 x8 x9 x10 x11 x12 x13 x14 x15 x16 x17) _ (cond_app (a13 x0 x1 x2 x3 x4 x5 x6 x7 x8 x9 x10 x11 x12 x13 x14 x15 x16 x17) _ (cond_app (a13 x0 x1 x2 x3 x4 x5 x6 x7 x8 x9 x10 x11 x12 x13 x14 x15 x16 x17) _ (cond_app (a13 x0 x1 x2 x3 x4 x5 x6 x7 x8 x9 x10 x11 x12 x13 x14 x15 x16 x17) _ (cond_app (a13 x0 x1 x2 x3 x4 x5 x6 x7 x8 x9 x10 x11 x12 x13 x14 x15 x16 x17) _ (cond_app (a13 x0 x1 x2 x3 x4 x5 x6 x7 x8 x9 x10 x11 x12 x13 x14 x15 x16 x17) _ (cond_app (a13 x0 x1 x2 x3 x4 x5 x6 x7 x8 x9 x10 x11 x12 x13 x14 x15 x16 x17) _ (cond_app (a13 x0 x1 x2 x3 x4 x5 x6 x7 x8 x9 x10 x11 x12 x13 x14 x15 x16 x17) _ (cond_app (a13 x0 x1 x2 x3 x4 x5 x6 x7 x8 x9 x10 x11 x12 x13 x14 x15 x16 x17) _ (cond_app (a13 x0 x1 x2 x3 x4 x5 x6 x7 x8 x9 x10 x11 x12 x13 x14 x15 x16 x17) _ (cond_app (a13 x0 x1 x2 x3 x4 x5 x6 x7 x8 x9 x10 x11 x12 x13 x14 x15 x16 x17) _ (cond_app (a13 x0 x1 x2 x3 x4 x5 x6 x7 x8 x9 x10 x11 x12 x13 x14 x15 x16 x17) _ (cond_app (a13 x0 x1 x2 x3 x4 x5 x6 x7 x8 x9 x10 x11 x12 x13 x14 x15 x16 x17) _ (cond_app (a13 x0 x1 x2 x3 x4 x5 x6 x7 x8 x9 x10 x11 x12 x13 x14 x15 x16 x17) _ (cond_app (a13 x0 x1 x2 x3 x4 x5 x6 x7 x8 x9 x10 x11 x12 x13 x14 x15 x16 x17) _ (cond_app (a13 x0 x1 x2 x3 x4 x5 x6 x7 x8 x9 x10 x11 x12 x13 x14 x15 x16 x17) _ (cond_app (a13 x0 x1 x2 x3 x4 x5 x6 x7 x8 x9 x10 x11 x12 x13 x14 x15 x16 x17) _ rfl rfl) rfl) rfl) rfl) rfl) rfl) rfl) rfl) rfl) rfl) rfl) rfl) rfl) rfl) rfl) rfl) rfl) rfl) rfl))
noncomputable def s13 (args : List Value) (s : St) : List (Bool × Value × St) :=
 match args, s.h with
 | [.agg ⟨[.float .f32 x0, .float .f32 x1, .float .f32 x2, .float .f32 x3, .float .f32 x4, .float .f32 x5, .float .f32 x6, .float .f32 x7, .float .f32 x8, .float .f32 x9, .float .f32 x10, .float .f32 x11, .float .f32 x12, .float .f32 x13, .float .f32 x14, .float .f32 x15, .float .f32 x16, .float .f32 x17]⟩], [] => [((Nat.beq ((r13 x0 x1 x2 x3 x4 x5 x6 x7 x8 x9 x10 x11 x12 x13 x14 x15 x16 x17).1) 0), .string ((r13 x0 x1 x2 x3 x4 x5 x6 x7 x8 x9 x10 x11 x12 x13 x14 x15 x16 x17).2), st0)]
 | _, _ => T26 13 args s
noncomputable def T27 : CallF := addF T26 13 s13
set_option maxRecDepth 100000 in
set_option maxHeartbeats 4000000 in
theorem ok27 : CfOk Tryd.prog T27 := by
  refine cfOk_add ok26 fun args s r s' h1 h2 h3 => ?_
  unfold s13 at h3; split at h3
  · rename_i h; exact callOk ok26 Tryd.func13 h1 h2 h (lfOkF_no _ _).body (e13 _ _ _ _ _ _ _ _ _ _ _ _ _ _ _ _ _ _) rfl h3
  · exact ok26 _ _ _ _ _ h1 h2 h3

/-- impl.ReadWood -/
noncomputable def r5 (x0 : ByteArray) : Nat × Nat × Nat × Nat × Nat × Nat × Nat × Nat × Nat × Nat × Nat × Nat × Nat × Nat × Nat × Nat × Nat × Nat × Nat × Int :=
 let c17 := (r10 ((r9 (ByteArray.mk #[108, 111, 103]) 0 ((r8 x0).2.1) false ((r8 x0).2.2)).2.1) ((r9 (ByteArray.mk #[108, 111, 103]) 0 ((r8 x0).2.1) false ((r8 x0).2.2)).2.2.1) ((r9 (ByteArray.mk #[108, 111, 103]) 0 ((r8 x0).2.1) false ((r8 x0).2.2)).2.2.2) ((r8 x0).2.2))
 let c18 := (r10 ((r10 (c17.2.2.1) (c17.2.2.2.1) (c17.2.2.2.2) ((r8 x0).2.2)).2.2.1) ((r10 (c17.2.2.1) (c17.2.2.2.1) (c17.2.2.2.2) ((r8 x0).2.2)).2.2.2.1) ((r10 (c17.2.2.1) (c17.2.2.2.1) (c17.2.2.2.2) ((r8 x0).2.2)).2.2.2.2) ((r8 x0).2.2))
 let c19 := (r10 ((r10 (c18.2.2.1) (c18.2.2.2.1) (c18.2.2.2.2) ((r8 x0).2.2)).2.2.1) ((r10 (c18.2.2.1) (c18.2.2.2.1) (c18.2.2.2.2) ((r8 x0).2.2)).2.2.2.1) ((r10 (c18.2.2.1) (c18.2.2.2.1) (c18.2.2.2.2) ((r8 x0).2.2)).2.2.2.2) ((r8 x0).2.2))
 let c20 := (r10 ((r10 (c19.2.2.1) (c19.2.2.2.1) (c19.2.2.2.2) ((r8 x0).2.2)).2.2.1) ((r10 (c19.2.2.1) (c19.2.2.2.1) (c19.2.2.2.2) ((r8 x0).2.2)).2.2.2.1) ((r10 (c19.2.2.1) (c19.2.2.2.1) (c19.2.2.2.2) ((r8 x0).2.2)).2.2.2.2) ((r8 x0).2.2))
 let c21 := (r10 ((r10 (c20.2.2.1) (c20.2.2.2.1) (c20.2.2.2.2) ((r8 x0).2.2)).2.2.1) ((r10 (c20.2.2.1) (c20.2.2.2.1) (c20.2.2.2.2) ((r8 x0).2.2)).2.2.2.1) ((r10 (c20.2.2.1) (c20.2.2.2.1) (c20.2.2.2.2) ((r8 x0).2.2)).2.2.2.2) ((r8 x0).2.2))
 let c22 := (r10 ((r10 (c21.2.2.1) (c21.2.2.2.1) (c21.2.2.2.2) ((r8 x0).2.2)).2.2.1) ((r10 (c21.2.2.1) (c21.2.2.2.1) (c21.2.2.2.2) ((r8 x0).2.2)).2.2.2.1) ((r10 (c21.2.2.1) (c21.2.2.2.1) (c21.2.2.2.2) ((r8 x0).2.2)).2.2.2.2) ((r8 x0).2.2))
 let c23 := (r10 ((r10 (c22.2.2.1) (c22.2.2.2.1) (c22.2.2.2.2) ((r8 x0).2.2)).2.2.1) ((r10 (c22.2.2.1) (c22.2.2.2.1) (c22.2.2.2.2) ((r8 x0).2.2)).2.2.2.1) ((r10 (c22.2.2.1) (c22.2.2.2.1) (c22.2.2.2.2) ((r8 x0).2.2)).2.2.2.2) ((r8 x0).2.2))
 let c24 := (r10 ((r10 (c23.2.2.1) (c23.2.2.2.1) (c23.2.2.2.2) ((r8 x0).2.2)).2.2.1) ((r10 (c23.2.2.1) (c23.2.2.2.1) (c23.2.2.2.2) ((r8 x0).2.2)).2.2.2.1) ((r10 (c23.2.2.1) (c23.2.2.2.1) (c23.2.2.2.2) ((r8 x0).2.2)).2.2.2.2) ((r8 x0).2.2))
 let c25 := (r10 ((r10 (c24.2.2.1) (c24.2.2.2.1) (c24.2.2.2.2) ((r8 x0).2.2)).2.2.1) ((r10 (c24.2.2.1) (c24.2.2.2.1) (c24.2.2.2.2) ((r8 x0).2.2)).2.2.2.1) ((r10 (c24.2.2.1) (c24.2.2.2.1) (c24.2.2.2.2) ((r8 x0).2.2)).2.2.2.2) ((r8 x0).2.2))
 let c26 := (r11 ((r10 (c25.2.2.1) (c25.2.2.2.1) (c25.2.2.2.2) ((r8 x0).2.2)).2.2.1) ((r10 (c25.2.2.1) (c25.2.2.2.1) (c25.2.2.2.2) ((r8 x0).2.2)).2.2.2.1) ((r10 (c25.2.2.1) (c25.2.2.2.1) (c25.2.2.2.2) ((r8 x0).2.2)).2.2.2.2) ((r8 x0).2.2))
 let c27 := (r12 (c17.2.1) ((r10 (c18.2.2.1) (c18.2.2.2.1) (c18.2.2.2.2) ((r8 x0).2.2)).2.1) (c20.2.1) ((r10 (c21.2.2.1) (c21.2.2.2.1) (c21.2.2.2.2) ((r8 x0).2.2)).2.1) (c23.2.1) ((r10 (c24.2.2.1) (c24.2.2.2.1) (c24.2.2.2.2) ((r8 x0).2.2)).2.1) ((r10 (c17.2.2.1) (c17.2.2.2.1) (c17.2.2.2.2) ((r8 x0).2.2)).2.1) (c19.2.1) ((r10 (c20.2.2.1) (c20.2.2.2.1) (c20.2.2.2.2) ((r8 x0).2.2)).2.1) (c22.2.1) ((r10 (c23.2.2.1) (c23.2.2.2.1) (c23.2.2.2.2) ((r8 x0).2.2)).2.1) (c25.2.1) (c18.2.1) ((r10 (c19.2.2.1) (c19.2.2.2.1) (c19.2.2.2.2) ((r8 x0).2.2)).2.1) (c21.2.1) ((r10 (c22.2.2.1) (c22.2.2.2.1) (c22.2.2.2.2) ((r8 x0).2.2)).2.1) (c24.2.1) ((r10 (c25.2.2.1) (c25.2.2.2.1) (c25.2.2.2.2) ((r8 x0).2.2)).2.1))
 let c28 := (r13 (c17.2.1) ((r10 (c18.2.2.1) (c18.2.2.2.1) (c18.2.2.2.2) ((r8 x0).2.2)).2.1) (c20.2.1) ((r10 (c21.2.2.1) (c21.2.2.2.1) (c21.2.2.2.2) ((r8 x0).2.2)).2.1) (c23.2.1) ((r10 (c24.2.2.1) (c24.2.2.2.1) (c24.2.2.2.2) ((r8 x0).2.2)).2.1) ((r10 (c17.2.2.1) (c17.2.2.2.1) (c17.2.2.2.2) ((r8 x0).2.2)).2.1) (c19.2.1) ((r10 (c20.2.2.1) (c20.2.2.2.1) (c20.2.2.2.2) ((r8 x0).2.2)).2.1) (c22.2.1) ((r10 (c23.2.2.1) (c23.2.2.2.1) (c23.2.2.2.2) ((r8 x0).2.2)).2.1) (c25.2.1) (c18.2.1) ((r10 (c19.2.2.1) (c19.2.2.2.1) (c19.2.2.2.2) ((r8 x0).2.2)).2.1) (c21.2.1) ((r10 (c22.2.2.1) (c22.2.2.2.1) (c22.2.2.2.2) ((r8 x0).2.2)).2.1) (c24.2.1) ((r10 (c25.2.2.1) (c25.2.2.2.1) (c25.2.2.2.2) ((r8 x0).2.2)).2.1))
 cond (Nat.beq ((r8 x0).1) 0)
  (cond (Nat.beq ((r9 (ByteArray.mk #[108, 111, 103]) 0 ((r8 x0).2.1) false ((r8 x0).2.2)).1) 0)
   (cond (Nat.beq (c17.1) 0)
    (cond (Nat.beq ((r10 (c17.2.2.1) (c17.2.2.2.1) (c17.2.2.2.2) ((r8 x0).2.2)).1) 0)
     (cond (Nat.beq (c18.1) 0)
      (cond (Nat.beq ((r10 (c18.2.2.1) (c18.2.2.2.1) (c18.2.2.2.2) ((r8 x0).2.2)).1) 0)
       (cond (Nat.beq (c19.1) 0)
        (cond (Nat.beq ((r10 (c19.2.2.1) (c19.2.2.2.1) (c19.2.2.2.2) ((r8 x0).2.2)).1) 0)
         (cond (Nat.beq (c20.1) 0)
          (cond (Nat.beq ((r10 (c20.2.2.1) (c20.2.2.2.1) (c20.2.2.2.2) ((r8 x0).2.2)).1) 0)
           (cond (Nat.beq (c21.1) 0)
            (cond (Nat.beq ((r10 (c21.2.2.1) (c21.2.2.2.1) (c21.2.2.2.2) ((r8 x0).2.2)).1) 0)
             (cond (Nat.beq (c22.1) 0)
              (cond (Nat.beq ((r10 (c22.2.2.1) (c22.2.2.2.1) (c22.2.2.2.2) ((r8 x0).2.2)).1) 0)
               (cond (Nat.beq (c23.1) 0)
                (cond (Nat.beq ((r10 (c23.2.2.1) (c23.2.2.2.1) (c23.2.2.2.2) ((r8 x0).2.2)).1) 0)
                 (cond (Nat.beq (c24.1) 0)
                  (cond (Nat.beq ((r10 (c24.2.2.1) (c24.2.2.2.1) (c24.2.2.2.2) ((r8 x0).2.2)).1) 0)
                   (cond (Nat.beq (c25.1) 0)
                    (cond (Nat.beq ((r10 (c25.2.2.1) (c25.2.2.2.1) (c25.2.2.2.2) ((r8 x0).2.2)).1) 0)
                     (cond (!c26)
                      (0, 0, 0, 0, 0, 0, 0, 0, 0, 0, 0, 0, 0, 0, 0, 0, 0, 0, 0, 5)
                      (cond (!c27)
                       (0, 0, 0, 0, 0, 0, 0, 0, 0, 0, 0, 0, 0, 0, 0, 0, 0, 0, 0, 5)
                       (cond (Nat.beq (c28.1) 0)
                        (cond (!((c28.2).toList == x0.toList))
                         (0, 0, 0, 0, 0, 0, 0, 0, 0, 0, 0, 0, 0, 0, 0, 0, 0, 0, 0, 5)
                         (0, (c17.2.1), ((r10 (c18.2.2.1) (c18.2.2.2.1) (c18.2.2.2.2) ((r8 x0).2.2)).2.1), (c20.2.1), ((r10 (c21.2.2.1) (c21.2.2.2.1) (c21.2.2.2.2) ((r8 x0).2.2)).2.1), (c23.2.1), ((r10 (c24.2.2.1) (c24.2.2.2.1) (c24.2.2.2.2) ((r8 x0).2.2)).2.1), ((r10 (c17.2.2.1) (c17.2.2.2.1) (c17.2.2.2.2) ((r8 x0).2.2)).2.1), (c19.2.1), ((r10 (c20.2.2.1) (c20.2.2.2.1) (c20.2.2.2.2) ((r8 x0).2.2)).2.1), (c22.2.1), ((r10 (c23.2.2.1) (c23.2.2.2.1) (c23.2.2.2.2) ((r8 x0).2.2)).2.1), (c25.2.1), (c18.2.1), ((r10 (c19.2.2.1) (c19.2.2.2.1) (c19.2.2.2.2) ((r8 x0).2.2)).2.1), (c21.2.1), ((r10 (c22.2.2.1) (c22.2.2.2.1) (c22.2.2.2.2) ((r8 x0).2.2)).2.1), (c24.2.1), ((r10 (c25.2.2.1) (c25.2.2.2.1) (c25.2.2.2.2) ((r8 x0).2.2)).2.1), 0))
                        (1, 0, 0, 0, 0, 0, 0, 0, 0, 0, 0, 0, 0, 0, 0, 0, 0, 0, 0, 0))))
                     (1, 0, 0, 0, 0, 0, 0, 0, 0, 0, 0, 0, 0, 0, 0, 0, 0, 0, 0, 0))
                    (1, 0, 0, 0, 0, 0, 0, 0, 0, 0, 0, 0, 0, 0, 0, 0, 0, 0, 0, 0))
                   (1, 0, 0, 0, 0, 0, 0, 0, 0, 0, 0, 0, 0, 0, 0, 0, 0, 0, 0, 0))
                  (1, 0, 0, 0, 0, 0, 0, 0, 0, 0, 0, 0, 0, 0, 0, 0, 0, 0, 0, 0))
                 (1, 0, 0, 0, 0, 0, 0, 0, 0, 0, 0, 0, 0, 0, 0, 0, 0, 0, 0, 0))
                (1, 0, 0, 0, 0, 0, 0, 0, 0, 0, 0, 0, 0, 0, 0, 0, 0, 0, 0, 0))
               (1, 0, 0, 0, 0, 0, 0, 0, 0, 0, 0, 0, 0, 0, 0, 0, 0, 0, 0, 0))
              (1, 0, 0, 0, 0, 0, 0, 0, 0, 0, 0, 0, 0, 0, 0, 0, 0, 0, 0, 0))
             (1, 0, 0, 0, 0, 0, 0, 0, 0, 0, 0, 0, 0, 0, 0, 0, 0, 0, 0, 0))
            (1, 0, 0, 0, 0, 0, 0, 0, 0, 0, 0, 0, 0, 0, 0, 0, 0, 0, 0, 0))
           (1, 0, 0, 0, 0, 0, 0, 0, 0, 0, 0, 0, 0, 0, 0, 0, 0, 0, 0, 0))
          (1, 0, 0, 0, 0, 0, 0, 0, 0, 0, 0, 0, 0, 0, 0, 0, 0, 0, 0, 0))
         (1, 0, 0, 0, 0, 0, 0, 0, 0, 0, 0, 0, 0, 0, 0, 0, 0, 0, 0, 0))
        (1, 0, 0, 0, 0, 0, 0, 0, 0, 0, 0, 0, 0, 0, 0, 0, 0, 0, 0, 0))
       (1, 0, 0, 0, 0, 0, 0, 0, 0, 0, 0, 0, 0, 0, 0, 0, 0, 0, 0, 0))
      (1, 0, 0, 0, 0, 0, 0, 0, 0, 0, 0, 0, 0, 0, 0, 0, 0, 0, 0, 0))
     (1, 0, 0, 0, 0, 0, 0, 0, 0, 0, 0, 0, 0, 0, 0, 0, 0, 0, 0, 0))
    (1, 0, 0, 0, 0, 0, 0, 0, 0, 0, 0, 0, 0, 0, 0, 0, 0, 0, 0, 0))
   (1, 0, 0, 0, 0, 0, 0, 0, 0, 0, 0, 0, 0, 0, 0, 0, 0, 0, 0, 0))
  (1, 0, 0, 0, 0, 0, 0, 0, 0, 0, 0, 0, 0, 0, 0, 0, 0, 0, 0, 0)
noncomputable def a5 (x0 : ByteArray) (p : Nat × Nat × Nat × Nat × Nat × Nat × Nat × Nat × Nat × Nat × Nat × Nat × Nat × Nat × Nat × Nat × Nat × Nat × Nat × Int) : Res := firstT [((Nat.beq (p.1) 0), .tuple #[.agg #[.float .f32 (p.2.1), .float .f32 (p.2.2.1), .float .f32 (p.2.2.2.1), .float .f32 (p.2.2.2.2.1), .float .f32 (p.2.2.2.2.2.1), .float .f32 (p.2.2.2.2.2.2.1), .float .f32 (p.2.2.2.2.2.2.2.1), .float .f32 (p.2.2.2.2.2.2.2.2.1), .float .f32 (p.2.2.2.2.2.2.2.2.2.1), .float .f32 (p.2.2.2.2.2.2.2.2.2.2.1), .float .f32 (p.2.2.2.2.2.2.2.2.2.2.2.1), .float .f32 (p.2.2.2.2.2.2.2.2.2.2.2.2.1), .float .f32 (p.2.2.2.2.2.2.2.2.2.2.2.2.2.1), .float .f32 (p.2.2.2.2.2.2.2.2.2.2.2.2.2.2.1), .float .f32 (p.2.2.2.2.2.2.2.2.2.2.2.2.2.2.2.1), .float .f32 (p.2.2.2.2.2.2.2.2.2.2.2.2.2.2.2.2.1), .float .f32 (p.2.2.2.2.2.2.2.2.2.2.2.2.2.2.2.2.2.1), .float .f32 (p.2.2.2.2.2.2.2.2.2.2.2.2.2.2.2.2.2.2.1)], .int .i64 (p.2.2.2.2.2.2.2.2.2.2.2.2.2.2.2.2.2.2.2)], st0)]
noncomputable def w5 (x0 : ByteArray) : Res :=
 let c17 := (r10 ((r9 (ByteArray.mk #[108, 111, 103]) 0 ((r8 x0).2.1) false ((r8 x0).2.2)).2.1) ((r9 (ByteArray.mk #[108, 111, 103]) 0 ((r8 x0).2.1) false ((r8 x0).2.2)).2.2.1) ((r9 (ByteArray.mk #[108, 111, 103]) 0 ((r8 x0).2.1) false ((r8 x0).2.2)).2.2.2) ((r8 x0).2.2))
 let c18 := (r10 ((r10 (c17.2.2.1) (c17.2.2.2.1) (c17.2.2.2.2) ((r8 x0).2.2)).2.2.1) ((r10 (c17.2.2.1) (c17.2.2.2.1) (c17.2.2.2.2) ((r8 x0).2.2)).2.2.2.1) ((r10 (c17.2.2.1) (c17.2.2.2.1) (c17.2.2.2.2) ((r8 x0).2.2)).2.2.2.2) ((r8 x0).2.2))
 let c19 := (r10 ((r10 (c18.2.2.1) (c18.2.2.2.1) (c18.2.2.2.2) ((r8 x0).2.2)).2.2.1) ((r10 (c18.2.2.1) (c18.2.2.2.1) (c18.2.2.2.2) ((r8 x0).2.2)).2.2.2.1) ((r10 (c18.2.2.1) (c18.2.2.2.1) (c18.2.2.2.2) ((r8 x0).2.2)).2.2.2.2) ((r8 x0).2.2))
 let c20 := (r10 ((r10 (c19.2.2.1) (c19.2.2.2.1) (c19.2.2.2.2) ((r8 x0).2.2)).2.2.1) ((r10 (c19.2.2.1) (c19.2.2.2.1) (c19.2.2.2.2) ((r8 x0).2.2)).2.2.2.1) ((r10 (c19.2.2.1) (c19.2.2.2.1) (c19.2.2.2.2) ((r8 x0).2.2)).2.2.2.2) ((r8 x0).2.2))
 let c21 := (r10 ((r10 (c20.2.2.1) (c20.2.2.2.1) (c20.2.2.2.2) ((r8 x0).2.2)).2.2.1) ((r10 (c20.2.2.1) (c20.2.2.2.1) (c20.2.2.2.2) ((r8 x0).2.2)).2.2.2.1) ((r10 (c20.2.2.1) (c20.2.2.2.1) (c20.2.2.2.2) ((r8 x0).2.2)).2.2.2.2) ((r8 x0).2.2))
 let c22 := (r10 ((r10 (c21.2.2.1) (c21.2.2.2.1) (c21.2.2.2.2) ((r8 x0).2.2)).2.2.1) ((r10 (c21.2.2.1) (c21.2.2.2.1) (c21.2.2.2.2) ((r8 x0).2.2)).2.2.2.1) ((r10 (c21.2.2.1) (c21.2.2.2.1) (c21.2.2.2.2) ((r8 x0).2.2)).2.2.2.2) ((r8 x0).2.2))
 let c23 := (r10 ((r10 (c22.2.2.1) (c22.2.2.2.1) (c22.2.2.2.2) ((r8 x0).2.2)).2.2.1) ((r10 (c22.2.2.1) (c22.2.2.2.1) (c22.2.2.2.2) ((r8 x0).2.2)).2.2.2.1) ((r10 (c22.2.2.1) (c22.2.2.2.1) (c22.2.2.2.2) ((r8 x0).2.2)).2.2.2.2) ((r8 x0).2.2))
 let c24 := (r10 ((r10 (c23.2.2.1) (c23.2.2.2.1) (c23.2.2.2.2) ((r8 x0).2.2)).2.2.1) ((r10 (c23.2.2.1) (c23.2.2.2.1) (c23.2.2.2.2) ((r8 x0).2.2)).2.2.2.1) ((r10 (c23.2.2.1) (c23.2.2.2.1) (c23.2.2.2.2) ((r8 x0).2.2)).2.2.2.2) ((r8 x0).2.2))
 let c25 := (r10 ((r10 (c24.2.2.1) (c24.2.2.2.1) (c24.2.2.2.2) ((r8 x0).2.2)).2.2.1) ((r10 (c24.2.2.1) (c24.2.2.2.1) (c24.2.2.2.2) ((r8 x0).2.2)).2.2.2.1) ((r10 (c24.2.2.1) (c24.2.2.2.1) (c24.2.2.2.2) ((r8 x0).2.2)).2.2.2.2) ((r8 x0).2.2))
 let c26 := (r11 ((r10 (c25.2.2.1) (c25.2.2.2.1) (c25.2.2.2.2) ((r8 x0).2.2)).2.2.1) ((r10 (c25.2.2.1) (c25.2.2.2.1) (c25.2.2.2.2) ((r8 x0).2.2)).2.2.2.1) ((r10 (c25.2.2.1) (c25.2.2.2.1) (c25.2.2.2.2) ((r8 x0).2.2)).2.2.2.2) ((r8 x0).2.2))
 let c27 := (r12 (c17.2.1) ((r10 (c18.2.2.1) (c18.2.2.2.1) (c18.2.2.2.2) ((r8 x0).2.2)).2.1) (c20.2.1) ((r10 (c21.2.2.1) (c21.2.2.2.1) (c21.2.2.2.2) ((r8 x0).2.2)).2.1) (c23.2.1) ((r10 (c24.2.2.1) (c24.2.2.2.1) (c24.2.2.2.2) ((r8 x0).2.2)).2.1) ((r10 (c17.2.2.1) (c17.2.2.2.1) (c17.2.2.2.2) ((r8 x0).2.2)).2.1) (c19.2.1) ((r10 (c20.2.2.1) (c20.2.2.2.1) (c20.2.2.2.2) ((r8 x0).2.2)).2.1) (c22.2.1) ((r10 (c23.2.2.1) (c23.2.2.2.1) (c23.2.2.2.2) ((r8 x0).2.2)).2.1) (c25.2.1) (c18.2.1) ((r10 (c19.2.2.1) (c19.2.2.2.1) (c19.2.2.2.2) ((r8 x0).2.2)).2.1) (c21.2.1) ((r10 (c22.2.2.1) (c22.2.2.2.1) (c22.2.2.2.2) ((r8 x0).2.2)).2.1) (c24.2.1) ((r10 (c25.2.2.1) (c25.2.2.2.1) (c25.2.2.2.2) ((r8 x0).2.2)).2.1))
 let c28 := (r13 (c17.2.1) ((r10 (c18.2.2.1) (c18.2.2.2.1) (c18.2.2.2.2) ((r8 x0).2.2)).2.1) (c20.2.1) ((r10 (c21.2.2.1) (c21.2.2.2.1) (c21.2.2.2.2) ((r8 x0).2.2)).2.1) (c23.2.1) ((r10 (c24.2.2.1) (c24.2.2.2.1) (c24.2.2.2.2) ((r8 x0).2.2)).2.1) ((r10 (c17.2.2.1) (c17.2.2.2.1) (c17.2.2.2.2) ((r8 x0).2.2)).2.1) (c19.2.1) ((r10 (c20.2.2.1) (c20.2.2.2.1) (c20.2.2.2.2) ((r8 x0).2.2)).2.1) (c22.2.1) ((r10 (c23.2.2.1) (c23.2.2.2.1) (c23.2.2.2.2) ((r8 x0).2.2)).2.1) (c25.2.1) (c18.2.1) ((r10 (c19.2.2.1) (c19.2.2.2.1) (c19.2.2.2.2) ((r8 x0).2.2)).2.1) (c21.2.1) ((r10 (c22.2.2.1) (c22.2.2.2.1) (c22.2.2.2.2) ((r8 x0).2.2)).2.1) (c24.2.1) ((r10 (c25.2.2.1) (c25.2.2.2.1) (c25.2.2.2.2) ((r8 x0).2.2)).2.1))
 (cond (Nat.beq ((r8 x0).1) 0)
 (cond (Nat.beq ((r9 (ByteArray.mk #[108, 111, 103]) 0 ((r8 x0).2.1) false ((r8 x0).2.2)).1) 0)
  (cond (Nat.beq (c17.1) 0)
   (cond (Nat.beq ((r10 (c17.2.2.1) (c17.2.2.2.1) (c17.2.2.2.2) ((r8 x0).2.2)).1) 0)
    (cond (Nat.beq (c18.1) 0)
     (cond (Nat.beq ((r10 (c18.2.2.1) (c18.2.2.2.1) (c18.2.2.2.2) ((r8 x0).2.2)).1) 0)
      (cond (Nat.beq (c19.1) 0)
       (cond (Nat.beq ((r10 (c19.2.2.1) (c19.2.2.2.1) (c19.2.2.2.2) ((r8 x0).2.2)).1) 0)
        (cond (Nat.beq (c20.1) 0)
         (cond (Nat.beq ((r10 (c20.2.2.1) (c20.2.2.2.1) (c20.2.2.2.2) ((r8 x0).2.2)).1) 0)
          (cond (Nat.beq (c21.1) 0)
           (cond (Nat.beq ((r10 (c21.2.2.1) (c21.2.2.2.1) (c21.2.2.2.2) ((r8 x0).2.2)).1) 0)
            (cond (Nat.beq (c22.1) 0)
             (cond (Nat.beq ((r10 (c22.2.2.1) (c22.2.2.2.1) (c22.2.2.2.2) ((r8 x0).2.2)).1) 0)
              (cond (Nat.beq (c23.1) 0)
               (cond (Nat.beq ((r10 (c23.2.2.1) (c23.2.2.2.1) (c23.2.2.2.2) ((r8 x0).2.2)).1) 0)
                (cond (Nat.beq (c24.1) 0)
                 (cond (Nat.beq ((r10 (c24.2.2.1) (c24.2.2.2.1) (c24.2.2.2.2) ((r8 x0).2.2)).1) 0)
                  (cond (Nat.beq (c25.1) 0)
                   (cond (Nat.beq ((r10 (c25.2.2.1) (c25.2.2.2.1) (c25.2.2.2.2) ((r8 x0).2.2)).1) 0)
                    (cond (!c26)
                     (a5 x0 (0, 0, 0, 0, 0, 0, 0, 0, 0, 0, 0, 0, 0, 0, 0, 0, 0, 0, 0, 5))
                     (cond (!c27)
                      (a5 x0 (0, 0, 0, 0, 0, 0, 0, 0, 0, 0, 0, 0, 0, 0, 0, 0, 0, 0, 0, 5))
                      (cond (Nat.beq (c28.1) 0)
                       (cond (!((c28.2).toList == x0.toList))
                        (a5 x0 (0, 0, 0, 0, 0, 0, 0, 0, 0, 0, 0, 0, 0, 0, 0, 0, 0, 0, 0, 5))
                        (a5 x0 (0, (c17.2.1), ((r10 (c18.2.2.1) (c18.2.2.2.1) (c18.2.2.2.2) ((r8 x0).2.2)).2.1), (c20.2.1), ((r10 (c21.2.2.1) (c21.2.2.2.1) (c21.2.2.2.2) ((r8 x0).2.2)).2.1), (c23.2.1), ((r10 (c24.2.2.1) (c24.2.2.2.1) (c24.2.2.2.2) ((r8 x0).2.2)).2.1), ((r10 (c17.2.2.1) (c17.2.2.2.1) (c17.2.2.2.2) ((r8 x0).2.2)).2.1), (c19.2.1), ((r10 (c20.2.2.1) (c20.2.2.2.1) (c20.2.2.2.2) ((r8 x0).2.2)).2.1), (c22.2.1), ((r10 (c23.2.2.1) (c23.2.2.2.1) (c23.2.2.2.2) ((r8 x0).2.2)).2.1), (c25.2.1), (c18.2.1), ((r10 (c19.2.2.1) (c19.2.2.2.1) (c19.2.2.2.2) ((r8 x0).2.2)).2.1), (c21.2.1), ((r10 (c22.2.2.1) (c22.2.2.2.1) (c22.2.2.2.2) ((r8 x0).2.2)).2.1), (c24.2.1), ((r10 (c25.2.2.1) (c25.2.2.2.1) (c25.2.2.2.2) ((r8 x0).2.2)).2.1), 0)))
                       none)))
                    none)
                   none)
                  none)
                 none)
                none)
               none)
              none)
             none)
            none)
           none)
          none)
         none)
        none)
       none)
      none)
     none)
    none)
   none)
  none)
 none)
set_option maxRecDepth 100000 in
set_option maxHeartbeats 4000000 in
theorem e5 (x0 : ByteArray) : evFn Tryd.prog ext T27 noL 200 Tryd.f5 [.string x0] st0 = firstT [((Nat.beq ((r5 x0).1) 0), .tuple #[.agg #[.float .f32 ((r5 x0).2.1), .float .f32 ((r5 x0).2.2.1), .float .f32 ((r5 x0).2.2.2.1), .float .f32 ((r5 x0).2.2.2.2.1), .float .f32 ((r5 x0).2.2.2.2.2.1), .float .f32 ((r5 x0).2.2.2.2.2.2.1), .float .f32 ((r5 x0).2.2.2.2.2.2.2.1), .float .f32 ((r5 x0).2.2.2.2.2.2.2.2.1), .float .f32 ((r5 x0).2.2.2.2.2.2.2.2.2.1), .float .f32 ((r5 x0).2.2.2.2.2.2.2.2.2.2.1), .float .f32 ((r5 x0).2.2.2.2.2.2.2.2.2.2.2.1), .float .f32 ((r5 x0).2.2.2.2.2.2.2.2.2.2.2.2.1), .float .f32 ((r5 x0).2.2.2.2.2.2.2.2.2.2.2.2.2.1), .float .f32 ((r5 x0).2.2.2.2.2.2.2.2.2.2.2.2.2.2.1), .float .f32 ((r5 x0).2.2.2.2.2.2.2.2.2.2.2.2.2.2.2.1), .float .f32 ((r5 x0).2.2.2.2.2.2.2.2.2.2.2.2.2.2.2.2.1), .float .f32 ((r5 x0).2.2.2.2.2.2.2.2.2.2.2.2.2.2.2.2.2.1), .float .f32 ((r5 x0).2.2.2.2.2.2.2.2.2.2.2.2.2.2.2.2.2.2.1)], .int .i64 ((r5 x0).2.2.2.2.2.2.2.2.2.2.2.2.2.2.2.2.2.2.2)], st0)] :=
 (show evFn Tryd.prog ext T27 noL 200 Tryd.f5 [.string x0] st0 = w5 x0 from by kernel_rfl).trans
 (show w5 x0 = a5 x0 (r5 x0) from by unfold w5 r5; exact (cond_app (a5 x0) _ (cond_app (a5 x0) _ (cond_app (a5 x0) _ (cond_app (a5 x0) _ (cond_app (a5 x0) _ (cond_app (a5 x0) _ (cond_app (a5 x0) _ (cond_app (a5 x0) _ (cond_app (a5 x0) _ (cond_app (a5 x0) _ (cond_app (a5 x0) _ (cond_app (a5 x0) _ (cond_app (a5 x0) _ (cond_app (a5 x0) _ (cond_app (a5 x0) _ (cond_app (a5 x0) _ (cond_app (a5 x0) _ (cond_app (a5 x0) _ (cond_app (a5 x0) _ (cond_app (a5 x0) _ (cond_app (a5 x0) _ rfl (cond_app (a5 x0) _ rfl (cond_app (a5 x0) _ (cond_app (a5 x0) _ rfl rfl) rfl))) rfl) rfl) rfl) rfl) rfl) rfl) rfl) rfl) rfl) rfl) rfl) rfl) rfl) rfl) rfl) rfl) rfl) rfl) rfl) rfl))
noncomputable def s5 (args : List Value) (s : St) : List (Bool × Value × St) :=
 match args, s.h with
 | [.string x0], [] => [((Nat.beq ((r5 x0).1) 0), .tuple #[.agg #[.float .f32 ((r5 x0).2.1), .float .f32 ((r5 x0).2.2.1), .float .f32 ((r5 x0).2.2.2.1), .float .f32 ((r5 x0).2.2.2.2.1), .float .f32 ((r5 x0).2.2.2.2.2.1), .float .f32 ((r5 x0).2.2.2.2.2.2.1), .float .f32 ((r5 x0).2.2.2.2.2.2.2.1), .float .f32 ((r5 x0).2.2.2.2.2.2.2.2.1), .float .f32 ((r5 x0).2.2.2.2.2.2.2.2.2.1), .float .f32 ((r5 x0).2.2.2.2.2.2.2.2.2.2.1), .float .f32 ((r5 x0).2.2.2.2.2.2.2.2.2.2.2.1), .float .f32 ((r5 x0).2.2.2.2.2.2.2.2.2.2.2.2.1), .float .f32 ((r5 x0).2.2.2.2.2.2.2.2.2.2.2.2.2.1), .float .f32 ((r5 x0).2.2.2.2.2.2.2.2.2.2.2.2.2.2.1), .float .f32 ((r5 x0).2.2.2.2.2.2.2.2.2.2.2.2.2.2.2.1), .float .f32 ((r5 x0).2.2.2.2.2.2.2.2.2.2.2.2.2.2.2.2.1), .float .f32 ((r5 x0).2.2.2.2.2.2.2.2.2.2.2.2.2.2.2.2.2.1), .float .f32 ((r5 x0).2.2.2.2.2.2.2.2.2.2.2.2.2.2.2.2.2.2.1)], .int .i64 ((r5 x0).2.2.2.2.2.2.2.2.2.2.2.2.2.2.2.2.2.2.2)], st0)]
 | _, _ => T27 5 args s
noncomputable def T28 : CallF := addF T27 5 s5
set_option maxRecDepth 100000 in
set_option maxHeartbeats 4000000 in
theorem ok28 : CfOk Tryd.prog T28 := by
  refine cfOk_add ok27 fun args s r s' h1 h2 h3 => ?_
  unfold s5 at h3; split at h3
  · rename_i h; exact callOk ok27 Tryd.func5 h1 h2 h (lfOkF_no _ _).body (e5 _) rfl h3
  · exact ok27 _ _ _ _ _ h1 h2 h3

/-- laws.sameFloat -/
noncomputable def r25 (x0 x1 : Nat) : Bool :=
 cond (!feq .f64 x0 x0)
  ((!feq .f64 x1 x1))
  (cond (!feq .f64 x1 x1)
   (false)
   (cond (feq .f64 x0 0)
    (cond (feq .f64 x1 0)
     (((fgt .f64 (fdiv .f64 4607182418800017408 x0) 0) == (fgt .f64 (fdiv .f64 4607182418800017408 x1) 0)))
     ((feq .f64 x0 x1)))
    ((feq .f64 x0 x1))))
noncomputable def a25 (x0 x1 : Nat) (p : Bool) : Res := firstT [(true, .bool p, st0)]
noncomputable def w25 (x0 x1 : Nat) : Res :=
 (cond (!feq .f64 x0 x0)
 (cond (!feq .f64 x0 x0)
  (a25 x0 x1 ((!feq .f64 x1 x1)))
  (some (.bool false, st0)))
 (cond (!feq .f64 x1 x1)
  (cond (!feq .f64 x0 x0)
   (some (.bool (!feq .f64 x1 x1), st0))
   (a25 x0 x1 (false)))
  (cond (feq .f64 x0 0)
   (cond (feq .f64 x1 0)
    (a25 x0 x1 (((fgt .f64 (fdiv .f64 4607182418800017408 x0) 0) == (fgt .f64 (fdiv .f64 4607182418800017408 x1) 0))))
    (a25 x0 x1 ((feq .f64 x0 x1))))
   (a25 x0 x1 ((feq .f64 x0 x1))))))
set_option maxRecDepth 100000 in
set_option maxHeartbeats 4000000 in
theorem e25 (x0 x1 : Nat) : evFn Tryd.prog ext T28 noL 200 Tryd.f25 [.float .f64 x0, .float .f64 x1] st0 = firstT [(true, .bool (r25 x0 x1), st0)] :=
 (show evFn Tryd.prog ext T28 noL 200 Tryd.f25 [.float .f64 x0, .float .f64 x1] st0 = w25 x0 x1 from by kernel_rfl).trans
 (show w25 x0 x1 = a25 x0 x1 (r25 x0 x1) from by unfold w25 r25; exact (cond_both (a25 x0 x1) _ (fun h0 => (cond_t (ev_not1 (ev_nott h0)) rfl)) (fun h0 => (cond_both (a25 x0 x1) _ (fun h1 => (cond_f (ev_not0 (ev_notf h0)) rfl)) (fun h1 => (cond_app (a25 x0 x1) _ (cond_app (a25 x0 x1) _ rfl rfl) rfl))))))
noncomputable def s25 (args : List Value) (s : St) : List (Bool × Value × St) :=
 match args, s.h with
 | [.float .f64 x0, .float .f64 x1], [] => [(true, .bool (r25 x0 x1), st0)]
 | _, _ => T28 25 args s
noncomputable def T29 : CallF := addF T28 25 s25
set_option maxRecDepth 100000 in
set_option maxHeartbeats 4000000 in
theorem ok29 : CfOk Tryd.prog T29 := by
  refine cfOk_add ok28 fun args s r s' h1 h2 h3 => ?_
  unfold s25 at h3; split at h3
  · rename_i h; exact callOk ok28 Tryd.func25 h1 h2 h (lfOkF_no _ _).body (e25 _ _) rfl h3
  · exact ok28 _ _ _ _ _ h1 h2 h3

/-- laws.eqFloat32A6 -/
noncomputable def r14 (x0 x1 x2 x3 x4 x5 x6 x7 x8 x9 x10 x11 : Nat) : Bool :=
 cond (!(r25 (widen x0) (widen x6)))
  (false)
  (cond (!(r25 (widen x1) (widen x7)))
   (false)
   (cond (!(r25 (widen x2) (widen x8)))
    (false)
    (cond (!(r25 (widen x3) (widen x9)))
     (false)
     (cond (!(r25 (widen x4) (widen x10)))
      (false)
      (cond (!(r25 (widen x5) (widen x11)))
       (false)
       (true))))))
noncomputable def a14 (x0 x1 x2 x3 x4 x5 x6 x7 x8 x9 x10 x11 : Nat) (p : Bool) : Res := firstT [(true, .bool p, st0)]
noncomputable def w14 (x0 x1 x2 x3 x4 x5 x6 x7 x8 x9 x10 x11 : Nat) : Res :=
 (cond (!(r25 (widen x0) (widen x6)))
 (a14 x0 x1 x2 x3 x4 x5 x6 x7 x8 x9 x10 x11 (false))
 (cond (!(r25 (widen x1) (widen x7)))
  (a14 x0 x1 x2 x3 x4 x5 x6 x7 x8 x9 x10 x11 (false))
  (cond (!(r25 (widen x2) (widen x8)))
   (a14 x0 x1 x2 x3 x4 x5 x6 x7 x8 x9 x10 x11 (false))
   (cond (!(r25 (widen x3) (widen x9)))
    (a14 x0 x1 x2 x3 x4 x5 x6 x7 x8 x9 x10 x11 (false))
    (cond (!(r25 (widen x4) (widen x10)))
     (a14 x0 x1 x2 x3 x4 x5 x6 x7 x8 x9 x10 x11 (false))
     (cond (!(r25 (widen x5) (widen x11)))
      (a14 x0 x1 x2 x3 x4 x5 x6 x7 x8 x9 x10 x11 (false))
      (a14 x0 x1 x2 x3 x4 x5 x6 x7 x8 x9 x10 x11 (true))))))))
set_option maxRecDepth 100000 in
set_option maxHeartbeats 4000000 in
theorem e14 (x0 x1 x2 x3 x4 x5 x6 x7 x8 x9 x10 x11 : Nat) : evFn Tryd.prog ext T29 noL 200 Tryd.f14 [.agg #[.float .f32 x0, .float .f32 x1, .float .f32 x2, .float .f32 x3, .float .f32 x4, .float .f32 x5], .agg #[.float .f32 x6, .float .f32 x7, .float .f32 x8, .float .f32 x9, .float .f32 x10, .float .f32 x11]] st0 = firstT [(true, .bool (r14 x0 x1 x2 x3 x4 x5 x6 x7 x8 x9 x10 x11), st0)] :=
 (show evFn Tryd.prog ext T29 noL 200 Tryd.f14 [.agg #[.float .f32 x0, .float .f32 x1, .float .f32 x2, .float .f32 x3, .float .f32 x4, .float .f32 x5], .agg #[.float .f32 x6, .float .f32 x7, .float .f32 x8, .float .f32 x9, .float .f32 x10, .float .f32 x11]] st0 = w14 x0 x1 x2 x3 x4 x5 x6 x7 x8 x9 x10 x11 from by kernel_rfl).trans
 (show w14 x0 x1 x2 x3 x4 x5 x6 x7 x8 x9 x10 x11 = a14 x0 x1 x2 x3 x4 x5 x6 x7 x8 x9 x10 x11 (r14 x0 x1 x2 x3 x4 x5 x6 x7 x8 x9 x10 x11) from by unfold w14 r14; exact (cond_app (a14 x0 x1 x2 x3 x4 x5 x6 x7 x8 x9 x10 x11) _ rfl (cond_app (a14 x0 x1 x2 x3 x4 x5 x6 x7 x8 x9 x10 x11) _ rfl (cond_app (a14 x0 x1 x2 x3 x4 x5 x6 x7 x8 x9 x10 x11) _ rfl (cond_app (a14 x0 x1 x2 x3 x4 x5 x6 x7 x8 x9 x10 x11) _ rfl (cond_app (a14 x0 x1 x2 x3 x4 x5 x6 x7 x8 x9 x10 x11) _ rfl (cond_app (a14 x0 x1 x2 x3 x4 x5 x6 x7 x8 x9 x10 x11) _ rfl rfl)))))))
noncomputable def s14 (args : List Value) (s : St) : List (Bool × Value × St) :=
 match args, s.h with
 | [.agg ⟨[.float .f32 x0, .float .f32 x1, .float .f32 x2, .float .f32 x3, .float .f32 x4, .float .f32 x5]⟩, .agg ⟨[.float .f32 x6, .float .f32 x7, .float .f32 x8, .float .f32 x9, .float .f32 x10, .float .f32 x11]⟩], [] => [(true, .bool (r14 x0 x1 x2 x3 x4 x5 x6 x7 x8 x9 x10 x11), st0)]
 | _, _ => T29 14 args s
noncomputable def T30 : CallF := addF T29 14 s14
set_option maxRecDepth 100000 in
set_option maxHeartbeats 4000000 in
theorem ok30 : CfOk Tryd.prog T30 := by
  refine cfOk_add ok29 fun args s r s' h1 h2 h3 => ?_
  unfold s14 at h3; split at h3
  · rename_i h; exact callOk ok29 Tryd.func14 h1 h2 h (lfOkF_no _ _).body (e14 _ _ _ _ _ _ _ _ _ _ _ _) rfl h3
  · exact ok29 _ _ _ _ _ h1 h2 h3
end Go.Proofs.YtbmagccjcccnaaaDoor
