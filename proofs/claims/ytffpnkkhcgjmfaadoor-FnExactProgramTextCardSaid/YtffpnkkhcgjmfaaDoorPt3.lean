/- What the functions that the statements reach answer, part 3. -/
import Derived.Test.YtffpnkkhcgjmfaaDoorPt2
namespace Go.Proofs.YtffpnkkhcgjmfaaDoor
open Go.Ab
set_option maxHeartbeats 4000000
set_option maxRecDepth 100000

/-- impl.ValidProgram, loop 1: one round -/
noncomputable def b23l1 (ih : Int → Int → Int → Int → List (List Int) → List ByteArray → (Nat × Int × Int × Int × Int)) (x0 x1 x2 x3 : Int) (x4 : List (List Int)) (x5 : List ByteArray) : Nat × Int × Int × Int × Int :=
 let c187 := (r51 (Int.toNat ((x4.getD (Int.toNat x3) []).getD 2 0)))
 let c188 := (r52 (Int.toNat ((x4.getD (Int.toNat x3) []).getD 2 0)))
 let c189 := (r53 ((x4.getD (Int.toNat x3) []).getD 0 0))
 cond (decide ((x3 : Int) < x2))
  (cond ((decide ((0 : Int) ≤ x3)) && (Nat.blt (Int.toNat x3) x4.length))
   (cond (decide ((((x4.getD (Int.toNat x3) []).getD 0 0) : Int) < 1))
    (0, x0, x1, 0, 0)
    (cond (decide ((((x4.getD (Int.toNat x3) []).getD 0 0) : Int) > 12))
     (0, x0, x1, 0, 0)
     (cond ((((x4.getD (Int.toNat x3) []).getD 0 0) : Int) == 1)
      (cond (((IntKind.i64.wrap ((x4.getD (Int.toNat x3) []).getD 1 0)) : Int) != 0)
       (0, x0, x1, 0, 0)
       (cond (!c187)
        (0, x0, x1, 0, 0)
        (cond (feq .f32 (Int.toNat ((x4.getD (Int.toNat x3) []).getD 2 0)) 0)
         (cond (!c188)
          (0, x0, x1, 0, 0)
          (cond ((((x4.getD (Int.toNat x3) []).getD 0 0) : Int) != 1)
           (cond (decide ((x0 : Int) < (c189.1)))
            (0, x0, x1, 0, 0)
            (cond (decide (((IntKind.i64.wrap (x0 + (IntKind.i64.wrap ((c189.2) - (c189.1))))) : Int) > 20))
             (0, (IntKind.i64.wrap (x0 + (IntKind.i64.wrap ((c189.2) - (c189.1))))), x1, 0, 0)
             (cond ((((x4.getD (Int.toNat x3) []).getD 0 0) : Int) == 4)
              (cond (((IntKind.i64.wrap (x0 + (IntKind.i64.wrap ((c189.2) - (c189.1))))) : Int) != 0)
               (0, (IntKind.i64.wrap (x0 + (IntKind.i64.wrap ((c189.2) - (c189.1))))), x1, 0, 0)
               (ih (IntKind.i64.wrap (x0 + (IntKind.i64.wrap ((c189.2) - (c189.1))))) x1 x2 (IntKind.i64.wrap (x3 + 1)) x4 x5))
              (ih (IntKind.i64.wrap (x0 + (IntKind.i64.wrap ((c189.2) - (c189.1))))) x1 x2 (IntKind.i64.wrap (x3 + 1)) x4 x5))))
           (cond (decide ((x0 : Int) < (c189.1)))
            (0, x0, x1, 0, 0)
            (cond (decide (((IntKind.i64.wrap (x0 + (IntKind.i64.wrap ((c189.2) - (c189.1))))) : Int) > 20))
             (0, (IntKind.i64.wrap (x0 + (IntKind.i64.wrap ((c189.2) - (c189.1))))), x1, 0, 0)
             (cond ((((x4.getD (Int.toNat x3) []).getD 0 0) : Int) == 4)
              (cond (((IntKind.i64.wrap (x0 + (IntKind.i64.wrap ((c189.2) - (c189.1))))) : Int) != 0)
               (0, (IntKind.i64.wrap (x0 + (IntKind.i64.wrap ((c189.2) - (c189.1))))), x1, 0, 0)
               (ih (IntKind.i64.wrap (x0 + (IntKind.i64.wrap ((c189.2) - (c189.1))))) x1 x2 (IntKind.i64.wrap (x3 + 1)) x4 x5))
              (ih (IntKind.i64.wrap (x0 + (IntKind.i64.wrap ((c189.2) - (c189.1))))) x1 x2 (IntKind.i64.wrap (x3 + 1)) x4 x5))))))
         (cond ((((x4.getD (Int.toNat x3) []).getD 0 0) : Int) != 1)
          (cond (!c188)
           (0, x0, x1, 0, 0)
           (cond (decide ((x0 : Int) < (c189.1)))
            (0, x0, x1, 0, 0)
            (cond (decide (((IntKind.i64.wrap (x0 + (IntKind.i64.wrap ((c189.2) - (c189.1))))) : Int) > 20))
             (0, (IntKind.i64.wrap (x0 + (IntKind.i64.wrap ((c189.2) - (c189.1))))), x1, 0, 0)
             (cond ((((x4.getD (Int.toNat x3) []).getD 0 0) : Int) == 4)
              (cond (((IntKind.i64.wrap (x0 + (IntKind.i64.wrap ((c189.2) - (c189.1))))) : Int) != 0)
               (0, (IntKind.i64.wrap (x0 + (IntKind.i64.wrap ((c189.2) - (c189.1))))), x1, 0, 0)
               (ih (IntKind.i64.wrap (x0 + (IntKind.i64.wrap ((c189.2) - (c189.1))))) x1 x2 (IntKind.i64.wrap (x3 + 1)) x4 x5))
              (ih (IntKind.i64.wrap (x0 + (IntKind.i64.wrap ((c189.2) - (c189.1))))) x1 x2 (IntKind.i64.wrap (x3 + 1)) x4 x5)))))
          (cond (decide ((x0 : Int) < (c189.1)))
           (0, x0, x1, 0, 0)
           (cond (decide (((IntKind.i64.wrap (x0 + (IntKind.i64.wrap ((c189.2) - (c189.1))))) : Int) > 20))
            (0, (IntKind.i64.wrap (x0 + (IntKind.i64.wrap ((c189.2) - (c189.1))))), x1, 0, 0)
            (cond ((((x4.getD (Int.toNat x3) []).getD 0 0) : Int) == 4)
             (cond (((IntKind.i64.wrap (x0 + (IntKind.i64.wrap ((c189.2) - (c189.1))))) : Int) != 0)
              (0, (IntKind.i64.wrap (x0 + (IntKind.i64.wrap ((c189.2) - (c189.1))))), x1, 0, 0)
              (ih (IntKind.i64.wrap (x0 + (IntKind.i64.wrap ((c189.2) - (c189.1))))) x1 x2 (IntKind.i64.wrap (x3 + 1)) x4 x5))
             (ih (IntKind.i64.wrap (x0 + (IntKind.i64.wrap ((c189.2) - (c189.1))))) x1 x2 (IntKind.i64.wrap (x3 + 1)) x4 x5))))))))
      (cond ((((x4.getD (Int.toNat x3) []).getD 0 0) : Int) == 2)
       (cond (decide (((IntKind.i64.wrap ((x4.getD (Int.toNat x3) []).getD 1 0)) : Int) < 0))
        (0, x0, x1, 0, 0)
        (cond (decide (((IntKind.i64.wrap ((x4.getD (Int.toNat x3) []).getD 1 0)) : Int) ≥ 4))
         (0, x0, x1, 0, 0)
         (cond ((((x4.getD (Int.toNat x3) []).getD 0 0) : Int) != 1)
          (cond (!c188)
           (0, x0, x1, 0, 0)
           (cond (decide ((x0 : Int) < (c189.1)))
            (0, x0, x1, 0, 0)
            (cond (decide (((IntKind.i64.wrap (x0 + (IntKind.i64.wrap ((c189.2) - (c189.1))))) : Int) > 20))
             (0, (IntKind.i64.wrap (x0 + (IntKind.i64.wrap ((c189.2) - (c189.1))))), x1, 0, 0)
             (cond ((((x4.getD (Int.toNat x3) []).getD 0 0) : Int) == 4)
              (cond (((IntKind.i64.wrap (x0 + (IntKind.i64.wrap ((c189.2) - (c189.1))))) : Int) != 0)
               (0, (IntKind.i64.wrap (x0 + (IntKind.i64.wrap ((c189.2) - (c189.1))))), x1, 0, 0)
               (ih (IntKind.i64.wrap (x0 + (IntKind.i64.wrap ((c189.2) - (c189.1))))) x1 x2 (IntKind.i64.wrap (x3 + 1)) x4 x5))
              (ih (IntKind.i64.wrap (x0 + (IntKind.i64.wrap ((c189.2) - (c189.1))))) x1 x2 (IntKind.i64.wrap (x3 + 1)) x4 x5)))))
          (cond (decide ((x0 : Int) < (c189.1)))
           (0, x0, x1, 0, 0)
           (cond (decide (((IntKind.i64.wrap (x0 + (IntKind.i64.wrap ((c189.2) - (c189.1))))) : Int) > 20))
            (0, (IntKind.i64.wrap (x0 + (IntKind.i64.wrap ((c189.2) - (c189.1))))), x1, 0, 0)
            (cond ((((x4.getD (Int.toNat x3) []).getD 0 0) : Int) == 4)
             (cond (((IntKind.i64.wrap (x0 + (IntKind.i64.wrap ((c189.2) - (c189.1))))) : Int) != 0)
              (0, (IntKind.i64.wrap (x0 + (IntKind.i64.wrap ((c189.2) - (c189.1))))), x1, 0, 0)
              (ih (IntKind.i64.wrap (x0 + (IntKind.i64.wrap ((c189.2) - (c189.1))))) x1 x2 (IntKind.i64.wrap (x3 + 1)) x4 x5))
             (ih (IntKind.i64.wrap (x0 + (IntKind.i64.wrap ((c189.2) - (c189.1))))) x1 x2 (IntKind.i64.wrap (x3 + 1)) x4 x5)))))))
       (cond ((((x4.getD (Int.toNat x3) []).getD 0 0) : Int) == 3)
        (cond (decide (((IntKind.i64.wrap ((x4.getD (Int.toNat x3) []).getD 1 0)) : Int) < 0))
         (0, x0, x1, 0, 0)
         (cond (decide (((IntKind.i64.wrap ((x4.getD (Int.toNat x3) []).getD 1 0)) : Int) ≥ x1))
          (0, x0, x1, 0, 0)
          (cond ((((x4.getD (Int.toNat x3) []).getD 0 0) : Int) != 1)
           (cond (!c188)
            (0, x0, x1, 0, 0)
            (cond (decide ((x0 : Int) < (c189.1)))
             (0, x0, x1, 0, 0)
             (cond (decide (((IntKind.i64.wrap (x0 + (IntKind.i64.wrap ((c189.2) - (c189.1))))) : Int) > 20))
              (0, (IntKind.i64.wrap (x0 + (IntKind.i64.wrap ((c189.2) - (c189.1))))), x1, 0, 0)
              (cond ((((x4.getD (Int.toNat x3) []).getD 0 0) : Int) == 4)
               (cond (((IntKind.i64.wrap (x0 + (IntKind.i64.wrap ((c189.2) - (c189.1))))) : Int) != 0)
                (0, (IntKind.i64.wrap (x0 + (IntKind.i64.wrap ((c189.2) - (c189.1))))), x1, 0, 0)
                (ih (IntKind.i64.wrap (x0 + (IntKind.i64.wrap ((c189.2) - (c189.1))))) x1 x2 (IntKind.i64.wrap (x3 + 1)) x4 x5))
               (ih (IntKind.i64.wrap (x0 + (IntKind.i64.wrap ((c189.2) - (c189.1))))) x1 x2 (IntKind.i64.wrap (x3 + 1)) x4 x5)))))
           (cond (decide ((x0 : Int) < (c189.1)))
            (0, x0, x1, 0, 0)
            (cond (decide (((IntKind.i64.wrap (x0 + (IntKind.i64.wrap ((c189.2) - (c189.1))))) : Int) > 20))
             (0, (IntKind.i64.wrap (x0 + (IntKind.i64.wrap ((c189.2) - (c189.1))))), x1, 0, 0)
             (cond ((((x4.getD (Int.toNat x3) []).getD 0 0) : Int) == 4)
              (cond (((IntKind.i64.wrap (x0 + (IntKind.i64.wrap ((c189.2) - (c189.1))))) : Int) != 0)
               (0, (IntKind.i64.wrap (x0 + (IntKind.i64.wrap ((c189.2) - (c189.1))))), x1, 0, 0)
               (ih (IntKind.i64.wrap (x0 + (IntKind.i64.wrap ((c189.2) - (c189.1))))) x1 x2 (IntKind.i64.wrap (x3 + 1)) x4 x5))
              (ih (IntKind.i64.wrap (x0 + (IntKind.i64.wrap ((c189.2) - (c189.1))))) x1 x2 (IntKind.i64.wrap (x3 + 1)) x4 x5)))))))
        (cond ((((x4.getD (Int.toNat x3) []).getD 0 0) : Int) == 4)
         (cond (((IntKind.i64.wrap ((x4.getD (Int.toNat x3) []).getD 1 0)) : Int) != x1)
          (0, x0, x1, 0, 0)
          (cond (decide ((x1 : Int) ≥ ((x5.length : Nat) : Int)))
           (0, x0, x1, 0, 0)
           (cond ((((x4.getD (Int.toNat x3) []).getD 0 0) : Int) != 1)
            (cond (!c188)
             (0, x0, (IntKind.i64.wrap (x1 + 1)), 0, 0)
             (cond (decide ((x0 : Int) < (c189.1)))
              (0, x0, (IntKind.i64.wrap (x1 + 1)), 0, 0)
              (cond (decide (((IntKind.i64.wrap (x0 + (IntKind.i64.wrap ((c189.2) - (c189.1))))) : Int) > 20))
               (0, (IntKind.i64.wrap (x0 + (IntKind.i64.wrap ((c189.2) - (c189.1))))), (IntKind.i64.wrap (x1 + 1)), 0, 0)
               (cond (((IntKind.i64.wrap (x0 + (IntKind.i64.wrap ((c189.2) - (c189.1))))) : Int) != 0)
                (0, (IntKind.i64.wrap (x0 + (IntKind.i64.wrap ((c189.2) - (c189.1))))), (IntKind.i64.wrap (x1 + 1)), 0, 0)
                (ih (IntKind.i64.wrap (x0 + (IntKind.i64.wrap ((c189.2) - (c189.1))))) (IntKind.i64.wrap (x1 + 1)) x2 (IntKind.i64.wrap (x3 + 1)) x4 x5)))))
            (cond (decide ((x0 : Int) < (c189.1)))
             (0, x0, (IntKind.i64.wrap (x1 + 1)), 0, 0)
             (cond (decide (((IntKind.i64.wrap (x0 + (IntKind.i64.wrap ((c189.2) - (c189.1))))) : Int) > 20))
              (0, (IntKind.i64.wrap (x0 + (IntKind.i64.wrap ((c189.2) - (c189.1))))), (IntKind.i64.wrap (x1 + 1)), 0, 0)
              (cond (((IntKind.i64.wrap (x0 + (IntKind.i64.wrap ((c189.2) - (c189.1))))) : Int) != 0)
               (0, (IntKind.i64.wrap (x0 + (IntKind.i64.wrap ((c189.2) - (c189.1))))), (IntKind.i64.wrap (x1 + 1)), 0, 0)
               (ih (IntKind.i64.wrap (x0 + (IntKind.i64.wrap ((c189.2) - (c189.1))))) (IntKind.i64.wrap (x1 + 1)) x2 (IntKind.i64.wrap (x3 + 1)) x4 x5)))))))
         (cond (((IntKind.i64.wrap ((x4.getD (Int.toNat x3) []).getD 1 0)) : Int) != 0)
          (0, x0, x1, 0, 0)
          (cond ((((x4.getD (Int.toNat x3) []).getD 0 0) : Int) != 1)
           (cond (!c188)
            (0, x0, x1, 0, 0)
            (cond (decide ((x0 : Int) < (c189.1)))
             (0, x0, x1, 0, 0)
             (cond (decide (((IntKind.i64.wrap (x0 + (IntKind.i64.wrap ((c189.2) - (c189.1))))) : Int) > 20))
              (0, (IntKind.i64.wrap (x0 + (IntKind.i64.wrap ((c189.2) - (c189.1))))), x1, 0, 0)
              (ih (IntKind.i64.wrap (x0 + (IntKind.i64.wrap ((c189.2) - (c189.1))))) x1 x2 (IntKind.i64.wrap (x3 + 1)) x4 x5))))
           (cond (decide ((x0 : Int) < (c189.1)))
            (0, x0, x1, 0, 0)
            (cond (decide (((IntKind.i64.wrap (x0 + (IntKind.i64.wrap ((c189.2) - (c189.1))))) : Int) > 20))
             (0, (IntKind.i64.wrap (x0 + (IntKind.i64.wrap ((c189.2) - (c189.1))))), x1, 0, 0)
             (ih (IntKind.i64.wrap (x0 + (IntKind.i64.wrap ((c189.2) - (c189.1))))) x1 x2 (IntKind.i64.wrap (x3 + 1)) x4 x5)))))))))))
   (2, 0, 0, 0, 0))
  (1, 0, 0, x0, x1)
noncomputable def r23l1 : Nat → Int → Int → Int → Int → List (List Int) → List ByteArray → (Nat × Int × Int × Int × Int)
 | 0 => fun _ _ _ _ _ _ => (2, 0, 0, 0, 0)
 | m + 1 => b23l1 (r23l1 m)
noncomputable def a23l1 (x0 x1 x2 x3 : Int) (x4 : List (List Int)) (x5 : List ByteArray) (p : Nat × Int × Int × Int × Int) : Option (Fin' × List Value × St) := firstT ([((Nat.beq (p.1) 0), .ret, [vp 0, .bool false, vi (p.2.1), vi (p.2.2.1)], ⟨[⟨true, (some (.cells [wsl 2, wsl 1]))⟩, ⟨true, (some (.tab [.int .i8, .int .i16, .fl .f32] x4))⟩, ⟨true, (some (.strs x5))⟩], 3, []⟩), ((Nat.beq (p.1) 1), .exit 2, [vp 0, anyV, vi (p.2.2.2.1), vi (p.2.2.2.2)], ⟨[⟨true, (some (.cells [wsl 2, wsl 1]))⟩, ⟨true, (some (.tab [.int .i8, .int .i16, .fl .f32] x4))⟩, ⟨true, (some (.strs x5))⟩], 3, []⟩)].map fun (b, x) => (b, (x.1, frameOf 161 [1, 2, 5, 6] x.2.1, x.2.2)))
noncomputable def u23l1 (x0 x1 x2 x3 : Int) (x4 : List (List Int)) (x5 : List ByteArray) (p : Nat × Int × Int × Int × Int) : Option (Fin' × List Value × St) := alts ([((Nat.beq (p.1) 0), .ret, [vp 0, .bool false, vi (p.2.1), vi (p.2.2.1)], ⟨[⟨true, (some (.cells [wsl 2, wsl 1]))⟩, ⟨true, (some (.tab [.int .i8, .int .i16, .fl .f32] x4))⟩, ⟨true, (some (.strs x5))⟩], 3, []⟩), ((Nat.beq (p.1) 1), .exit 2, [vp 0, anyV, vi (p.2.2.2.1), vi (p.2.2.2.2)], ⟨[⟨true, (some (.cells [wsl 2, wsl 1]))⟩, ⟨true, (some (.tab [.int .i8, .int .i16, .fl .f32] x4))⟩, ⟨true, (some (.strs x5))⟩], 3, []⟩)].map fun (b, x) => (b, (x.1, frameOf 161 [1, 2, 5, 6] x.2.1, x.2.2))) some
theorem v23l1 (x0 x1 x2 x3 : Int) (x4 : List (List Int)) (x5 : List ByteArray) (p : Nat × Int × Int × Int × Int) : u23l1 x0 x1 x2 x3 x4 x5 p = a23l1 x0 x1 x2 x3 x4 x5 p := alts_first _
noncomputable def q23l1 (m : Nat) : SumK := fun vals s =>
 match vals, s.h with
 | [.pointer (some ⟨f0, f1, some f2⟩), .int .i64 x0, .int .i64 x1, .iface f3 .nilIface, .int .i64 x2, .int .i64 x3], [⟨true, some (.cells [.iface f4 .nilIface, .iface f5 .nilIface])⟩, ⟨true, some (.tab [.int .i8, .int .i16, .fl .f32] x4)⟩, ⟨true, some (.strs x5)⟩] => if f0 = 0 ∧ f1 = 0 ∧ f2 = 0 ∧ f3 = 1 ∧ f4 = 2 ∧ f5 = 1 then [((Nat.beq ((r23l1 m x0 x1 x2 x3 x4 x5).1) 0), .ret, [vp 0, .bool false, vi ((r23l1 m x0 x1 x2 x3 x4 x5).2.1), vi ((r23l1 m x0 x1 x2 x3 x4 x5).2.2.1)], ⟨[⟨true, (some (.cells [wsl 2, wsl 1]))⟩, ⟨true, (some (.tab [.int .i8, .int .i16, .fl .f32] x4))⟩, ⟨true, (some (.strs x5))⟩], 3, []⟩), ((Nat.beq ((r23l1 m x0 x1 x2 x3 x4 x5).1) 1), .exit 2, [vp 0, anyV, vi ((r23l1 m x0 x1 x2 x3 x4 x5).2.2.2.1), vi ((r23l1 m x0 x1 x2 x3 x4 x5).2.2.2.2)], ⟨[⟨true, (some (.cells [wsl 2, wsl 1]))⟩, ⟨true, (some (.tab [.int .i8, .int .i16, .fl .f32] x4))⟩, ⟨true, (some (.strs x5))⟩], 3, []⟩)] else noQ vals s
 | _, _ => noQ vals s
noncomputable def w23l1 (ih : Int → Int → Int → Int → List (List Int) → List ByteArray → (Nat × Int × Int × Int × Int)) (x0 x1 x2 x3 : Int) (x4 : List (List Int)) (x5 : List ByteArray) : Option (Fin' × List Value × St) :=
 let c187 := (r51 (Int.toNat ((x4.getD (Int.toNat x3) []).getD 2 0)))
 let c188 := (r52 (Int.toNat ((x4.getD (Int.toNat x3) []).getD 2 0)))
 let c189 := (r53 ((x4.getD (Int.toNat x3) []).getD 0 0))
 (cond (decide ((x3 : Int) < x2))
 (cond ((decide ((0 : Int) ≤ x3)) && (Nat.blt (Int.toNat x3) x4.length))
  (cond (Nat.blt (Int.toNat x3) x4.length)
   (cond (decide ((((x4.getD (Int.toNat x3) []).getD 0 0) : Int) < 1))
    (a23l1 x0 x1 x2 x3 x4 x5 (0, x0, x1, 0, 0))
    (cond (decide ((((x4.getD (Int.toNat x3) []).getD 0 0) : Int) > 12))
     (a23l1 x0 x1 x2 x3 x4 x5 (0, x0, x1, 0, 0))
     (cond ((((x4.getD (Int.toNat x3) []).getD 0 0) : Int) == 1)
      (cond (((IntKind.i64.wrap ((x4.getD (Int.toNat x3) []).getD 1 0)) : Int) != 0)
       (a23l1 x0 x1 x2 x3 x4 x5 (0, x0, x1, 0, 0))
       (cond (!c187)
        (a23l1 x0 x1 x2 x3 x4 x5 (0, x0, x1, 0, 0))
        (cond (feq .f32 (Int.toNat ((x4.getD (Int.toNat x3) []).getD 2 0)) 0)
         (cond (!c188)
          (a23l1 x0 x1 x2 x3 x4 x5 (0, x0, x1, 0, 0))
          (cond ((((x4.getD (Int.toNat x3) []).getD 0 0) : Int) != 1)
           (cond (!c188)
            (some (.ret, frameOf 161 [1, 2, 5, 6] [vp 0, .bool false, vi x0, vi x1], ⟨[⟨true, (some (.cells [wsl 2, wsl 1]))⟩, ⟨true, (some (.tab [.int .i8, .int .i16, .fl .f32] x4))⟩, ⟨true, (some (.strs x5))⟩], 3, []⟩))
            (cond (decide ((x0 : Int) < (c189.1)))
             (a23l1 x0 x1 x2 x3 x4 x5 (0, x0, x1, 0, 0))
             (cond (decide (((IntKind.i64.wrap (x0 + (IntKind.i64.wrap ((c189.2) - (c189.1))))) : Int) > 20))
              (a23l1 x0 x1 x2 x3 x4 x5 (0, (IntKind.i64.wrap (x0 + (IntKind.i64.wrap ((c189.2) - (c189.1))))), x1, 0, 0))
              (cond ((((x4.getD (Int.toNat x3) []).getD 0 0) : Int) == 4)
               (cond (((IntKind.i64.wrap (x0 + (IntKind.i64.wrap ((c189.2) - (c189.1))))) : Int) != 0)
                (a23l1 x0 x1 x2 x3 x4 x5 (0, (IntKind.i64.wrap (x0 + (IntKind.i64.wrap ((c189.2) - (c189.1))))), x1, 0, 0))
                (u23l1 x0 x1 x2 x3 x4 x5 (ih (IntKind.i64.wrap (x0 + (IntKind.i64.wrap ((c189.2) - (c189.1))))) x1 x2 (IntKind.i64.wrap (x3 + 1)) x4 x5)))
               (u23l1 x0 x1 x2 x3 x4 x5 (ih (IntKind.i64.wrap (x0 + (IntKind.i64.wrap ((c189.2) - (c189.1))))) x1 x2 (IntKind.i64.wrap (x3 + 1)) x4 x5))))))
           (cond (decide ((x0 : Int) < (c189.1)))
            (a23l1 x0 x1 x2 x3 x4 x5 (0, x0, x1, 0, 0))
            (cond (decide (((IntKind.i64.wrap (x0 + (IntKind.i64.wrap ((c189.2) - (c189.1))))) : Int) > 20))
             (a23l1 x0 x1 x2 x3 x4 x5 (0, (IntKind.i64.wrap (x0 + (IntKind.i64.wrap ((c189.2) - (c189.1))))), x1, 0, 0))
             (cond ((((x4.getD (Int.toNat x3) []).getD 0 0) : Int) == 4)
              (cond (((IntKind.i64.wrap (x0 + (IntKind.i64.wrap ((c189.2) - (c189.1))))) : Int) != 0)
               (a23l1 x0 x1 x2 x3 x4 x5 (0, (IntKind.i64.wrap (x0 + (IntKind.i64.wrap ((c189.2) - (c189.1))))), x1, 0, 0))
               (u23l1 x0 x1 x2 x3 x4 x5 (ih (IntKind.i64.wrap (x0 + (IntKind.i64.wrap ((c189.2) - (c189.1))))) x1 x2 (IntKind.i64.wrap (x3 + 1)) x4 x5)))
              (u23l1 x0 x1 x2 x3 x4 x5 (ih (IntKind.i64.wrap (x0 + (IntKind.i64.wrap ((c189.2) - (c189.1))))) x1 x2 (IntKind.i64.wrap (x3 + 1)) x4 x5)))))))
         (cond ((((x4.getD (Int.toNat x3) []).getD 0 0) : Int) != 1)
          (cond (!c188)
           (a23l1 x0 x1 x2 x3 x4 x5 (0, x0, x1, 0, 0))
           (cond (decide ((x0 : Int) < (c189.1)))
            (a23l1 x0 x1 x2 x3 x4 x5 (0, x0, x1, 0, 0))
            (cond (decide (((IntKind.i64.wrap (x0 + (IntKind.i64.wrap ((c189.2) - (c189.1))))) : Int) > 20))
             (a23l1 x0 x1 x2 x3 x4 x5 (0, (IntKind.i64.wrap (x0 + (IntKind.i64.wrap ((c189.2) - (c189.1))))), x1, 0, 0))
             (cond ((((x4.getD (Int.toNat x3) []).getD 0 0) : Int) == 4)
              (cond (((IntKind.i64.wrap (x0 + (IntKind.i64.wrap ((c189.2) - (c189.1))))) : Int) != 0)
               (a23l1 x0 x1 x2 x3 x4 x5 (0, (IntKind.i64.wrap (x0 + (IntKind.i64.wrap ((c189.2) - (c189.1))))), x1, 0, 0))
               (u23l1 x0 x1 x2 x3 x4 x5 (ih (IntKind.i64.wrap (x0 + (IntKind.i64.wrap ((c189.2) - (c189.1))))) x1 x2 (IntKind.i64.wrap (x3 + 1)) x4 x5)))
              (u23l1 x0 x1 x2 x3 x4 x5 (ih (IntKind.i64.wrap (x0 + (IntKind.i64.wrap ((c189.2) - (c189.1))))) x1 x2 (IntKind.i64.wrap (x3 + 1)) x4 x5))))))
          (cond (decide ((x0 : Int) < (c189.1)))
           (a23l1 x0 x1 x2 x3 x4 x5 (0, x0, x1, 0, 0))
           (cond (decide (((IntKind.i64.wrap (x0 + (IntKind.i64.wrap ((c189.2) - (c189.1))))) : Int) > 20))
            (a23l1 x0 x1 x2 x3 x4 x5 (0, (IntKind.i64.wrap (x0 + (IntKind.i64.wrap ((c189.2) - (c189.1))))), x1, 0, 0))
            (cond ((((x4.getD (Int.toNat x3) []).getD 0 0) : Int) == 4)
             (cond (((IntKind.i64.wrap (x0 + (IntKind.i64.wrap ((c189.2) - (c189.1))))) : Int) != 0)
              (a23l1 x0 x1 x2 x3 x4 x5 (0, (IntKind.i64.wrap (x0 + (IntKind.i64.wrap ((c189.2) - (c189.1))))), x1, 0, 0))
              (u23l1 x0 x1 x2 x3 x4 x5 (ih (IntKind.i64.wrap (x0 + (IntKind.i64.wrap ((c189.2) - (c189.1))))) x1 x2 (IntKind.i64.wrap (x3 + 1)) x4 x5)))
             (u23l1 x0 x1 x2 x3 x4 x5 (ih (IntKind.i64.wrap (x0 + (IntKind.i64.wrap ((c189.2) - (c189.1))))) x1 x2 (IntKind.i64.wrap (x3 + 1)) x4 x5)))))))))
      (cond ((((x4.getD (Int.toNat x3) []).getD 0 0) : Int) == 2)
       (cond (decide (((IntKind.i64.wrap ((x4.getD (Int.toNat x3) []).getD 1 0)) : Int) < 0))
        (a23l1 x0 x1 x2 x3 x4 x5 (0, x0, x1, 0, 0))
        (cond (decide (((IntKind.i64.wrap ((x4.getD (Int.toNat x3) []).getD 1 0)) : Int) ≥ 4))
         (a23l1 x0 x1 x2 x3 x4 x5 (0, x0, x1, 0, 0))
         (cond ((((x4.getD (Int.toNat x3) []).getD 0 0) : Int) != 1)
          (cond (!c188)
           (a23l1 x0 x1 x2 x3 x4 x5 (0, x0, x1, 0, 0))
           (cond (decide ((x0 : Int) < (c189.1)))
            (a23l1 x0 x1 x2 x3 x4 x5 (0, x0, x1, 0, 0))
            (cond (decide (((IntKind.i64.wrap (x0 + (IntKind.i64.wrap ((c189.2) - (c189.1))))) : Int) > 20))
             (a23l1 x0 x1 x2 x3 x4 x5 (0, (IntKind.i64.wrap (x0 + (IntKind.i64.wrap ((c189.2) - (c189.1))))), x1, 0, 0))
             (cond ((((x4.getD (Int.toNat x3) []).getD 0 0) : Int) == 4)
              (cond (((IntKind.i64.wrap (x0 + (IntKind.i64.wrap ((c189.2) - (c189.1))))) : Int) != 0)
               (a23l1 x0 x1 x2 x3 x4 x5 (0, (IntKind.i64.wrap (x0 + (IntKind.i64.wrap ((c189.2) - (c189.1))))), x1, 0, 0))
               (u23l1 x0 x1 x2 x3 x4 x5 (ih (IntKind.i64.wrap (x0 + (IntKind.i64.wrap ((c189.2) - (c189.1))))) x1 x2 (IntKind.i64.wrap (x3 + 1)) x4 x5)))
              (u23l1 x0 x1 x2 x3 x4 x5 (ih (IntKind.i64.wrap (x0 + (IntKind.i64.wrap ((c189.2) - (c189.1))))) x1 x2 (IntKind.i64.wrap (x3 + 1)) x4 x5))))))
          (cond (decide ((x0 : Int) < (c189.1)))
           (a23l1 x0 x1 x2 x3 x4 x5 (0, x0, x1, 0, 0))
           (cond (decide (((IntKind.i64.wrap (x0 + (IntKind.i64.wrap ((c189.2) - (c189.1))))) : Int) > 20))
            (a23l1 x0 x1 x2 x3 x4 x5 (0, (IntKind.i64.wrap (x0 + (IntKind.i64.wrap ((c189.2) - (c189.1))))), x1, 0, 0))
            (cond ((((x4.getD (Int.toNat x3) []).getD 0 0) : Int) == 4)
             (cond (((IntKind.i64.wrap (x0 + (IntKind.i64.wrap ((c189.2) - (c189.1))))) : Int) != 0)
              (a23l1 x0 x1 x2 x3 x4 x5 (0, (IntKind.i64.wrap (x0 + (IntKind.i64.wrap ((c189.2) - (c189.1))))), x1, 0, 0))
              (u23l1 x0 x1 x2 x3 x4 x5 (ih (IntKind.i64.wrap (x0 + (IntKind.i64.wrap ((c189.2) - (c189.1))))) x1 x2 (IntKind.i64.wrap (x3 + 1)) x4 x5)))
             (u23l1 x0 x1 x2 x3 x4 x5 (ih (IntKind.i64.wrap (x0 + (IntKind.i64.wrap ((c189.2) - (c189.1))))) x1 x2 (IntKind.i64.wrap (x3 + 1)) x4 x5))))))))
       (cond ((((x4.getD (Int.toNat x3) []).getD 0 0) : Int) == 3)
        (cond (decide (((IntKind.i64.wrap ((x4.getD (Int.toNat x3) []).getD 1 0)) : Int) < 0))
         (a23l1 x0 x1 x2 x3 x4 x5 (0, x0, x1, 0, 0))
         (cond (decide (((IntKind.i64.wrap ((x4.getD (Int.toNat x3) []).getD 1 0)) : Int) ≥ x1))
          (a23l1 x0 x1 x2 x3 x4 x5 (0, x0, x1, 0, 0))
          (cond ((((x4.getD (Int.toNat x3) []).getD 0 0) : Int) != 1)
           (cond (!c188)
            (a23l1 x0 x1 x2 x3 x4 x5 (0, x0, x1, 0, 0))
            (cond (decide ((x0 : Int) < (c189.1)))
             (a23l1 x0 x1 x2 x3 x4 x5 (0, x0, x1, 0, 0))
             (cond (decide (((IntKind.i64.wrap (x0 + (IntKind.i64.wrap ((c189.2) - (c189.1))))) : Int) > 20))
              (a23l1 x0 x1 x2 x3 x4 x5 (0, (IntKind.i64.wrap (x0 + (IntKind.i64.wrap ((c189.2) - (c189.1))))), x1, 0, 0))
              (cond ((((x4.getD (Int.toNat x3) []).getD 0 0) : Int) == 4)
               (cond (((IntKind.i64.wrap (x0 + (IntKind.i64.wrap ((c189.2) - (c189.1))))) : Int) != 0)
                (a23l1 x0 x1 x2 x3 x4 x5 (0, (IntKind.i64.wrap (x0 + (IntKind.i64.wrap ((c189.2) - (c189.1))))), x1, 0, 0))
                (u23l1 x0 x1 x2 x3 x4 x5 (ih (IntKind.i64.wrap (x0 + (IntKind.i64.wrap ((c189.2) - (c189.1))))) x1 x2 (IntKind.i64.wrap (x3 + 1)) x4 x5)))
               (u23l1 x0 x1 x2 x3 x4 x5 (ih (IntKind.i64.wrap (x0 + (IntKind.i64.wrap ((c189.2) - (c189.1))))) x1 x2 (IntKind.i64.wrap (x3 + 1)) x4 x5))))))
           (cond (decide ((x0 : Int) < (c189.1)))
            (a23l1 x0 x1 x2 x3 x4 x5 (0, x0, x1, 0, 0))
            (cond (decide (((IntKind.i64.wrap (x0 + (IntKind.i64.wrap ((c189.2) - (c189.1))))) : Int) > 20))
             (a23l1 x0 x1 x2 x3 x4 x5 (0, (IntKind.i64.wrap (x0 + (IntKind.i64.wrap ((c189.2) - (c189.1))))), x1, 0, 0))
             (cond ((((x4.getD (Int.toNat x3) []).getD 0 0) : Int) == 4)
              (cond (((IntKind.i64.wrap (x0 + (IntKind.i64.wrap ((c189.2) - (c189.1))))) : Int) != 0)
               (a23l1 x0 x1 x2 x3 x4 x5 (0, (IntKind.i64.wrap (x0 + (IntKind.i64.wrap ((c189.2) - (c189.1))))), x1, 0, 0))
               (u23l1 x0 x1 x2 x3 x4 x5 (ih (IntKind.i64.wrap (x0 + (IntKind.i64.wrap ((c189.2) - (c189.1))))) x1 x2 (IntKind.i64.wrap (x3 + 1)) x4 x5)))
              (u23l1 x0 x1 x2 x3 x4 x5 (ih (IntKind.i64.wrap (x0 + (IntKind.i64.wrap ((c189.2) - (c189.1))))) x1 x2 (IntKind.i64.wrap (x3 + 1)) x4 x5))))))))
        (cond ((((x4.getD (Int.toNat x3) []).getD 0 0) : Int) == 4)
         (cond (((IntKind.i64.wrap ((x4.getD (Int.toNat x3) []).getD 1 0)) : Int) != x1)
          (a23l1 x0 x1 x2 x3 x4 x5 (0, x0, x1, 0, 0))
          (cond (decide ((x1 : Int) ≥ ((x5.length : Nat) : Int)))
           (a23l1 x0 x1 x2 x3 x4 x5 (0, x0, x1, 0, 0))
           (cond ((((x4.getD (Int.toNat x3) []).getD 0 0) : Int) != 1)
            (cond (!c188)
             (a23l1 x0 x1 x2 x3 x4 x5 (0, x0, (IntKind.i64.wrap (x1 + 1)), 0, 0))
             (cond (decide ((x0 : Int) < (c189.1)))
              (a23l1 x0 x1 x2 x3 x4 x5 (0, x0, (IntKind.i64.wrap (x1 + 1)), 0, 0))
              (cond (decide (((IntKind.i64.wrap (x0 + (IntKind.i64.wrap ((c189.2) - (c189.1))))) : Int) > 20))
               (a23l1 x0 x1 x2 x3 x4 x5 (0, (IntKind.i64.wrap (x0 + (IntKind.i64.wrap ((c189.2) - (c189.1))))), (IntKind.i64.wrap (x1 + 1)), 0, 0))
               (cond ((((x4.getD (Int.toNat x3) []).getD 0 0) : Int) == 4)
                (cond (((IntKind.i64.wrap (x0 + (IntKind.i64.wrap ((c189.2) - (c189.1))))) : Int) != 0)
                 (a23l1 x0 x1 x2 x3 x4 x5 (0, (IntKind.i64.wrap (x0 + (IntKind.i64.wrap ((c189.2) - (c189.1))))), (IntKind.i64.wrap (x1 + 1)), 0, 0))
                 (u23l1 x0 x1 x2 x3 x4 x5 (ih (IntKind.i64.wrap (x0 + (IntKind.i64.wrap ((c189.2) - (c189.1))))) (IntKind.i64.wrap (x1 + 1)) x2 (IntKind.i64.wrap (x3 + 1)) x4 x5)))
                (cond (Nat.beq ((ih (IntKind.i64.wrap (x0 + (IntKind.i64.wrap ((c189.2) - (c189.1))))) (IntKind.i64.wrap (x1 + 1)) x2 (IntKind.i64.wrap (x3 + 1)) x4 x5).1) 0)
                 (some (.ret, frameOf 161 [1, 2, 5, 6] [vp 0, .bool false, vi ((ih (IntKind.i64.wrap (x0 + (IntKind.i64.wrap ((c189.2) - (c189.1))))) (IntKind.i64.wrap (x1 + 1)) x2 (IntKind.i64.wrap (x3 + 1)) x4 x5).2.1), vi ((ih (IntKind.i64.wrap (x0 + (IntKind.i64.wrap ((c189.2) - (c189.1))))) (IntKind.i64.wrap (x1 + 1)) x2 (IntKind.i64.wrap (x3 + 1)) x4 x5).2.2.1)], ⟨[⟨true, (some (.cells [wsl 2, wsl 1]))⟩, ⟨true, (some (.tab [.int .i8, .int .i16, .fl .f32] x4))⟩, ⟨true, (some (.strs x5))⟩], 3, []⟩))
                 (cond (Nat.beq ((ih (IntKind.i64.wrap (x0 + (IntKind.i64.wrap ((c189.2) - (c189.1))))) (IntKind.i64.wrap (x1 + 1)) x2 (IntKind.i64.wrap (x3 + 1)) x4 x5).1) 1)
                  (some (.exit 2, frameOf 161 [1, 2, 5, 6] [vp 0, anyV, vi ((ih (IntKind.i64.wrap (x0 + (IntKind.i64.wrap ((c189.2) - (c189.1))))) (IntKind.i64.wrap (x1 + 1)) x2 (IntKind.i64.wrap (x3 + 1)) x4 x5).2.2.2.1), vi ((ih (IntKind.i64.wrap (x0 + (IntKind.i64.wrap ((c189.2) - (c189.1))))) (IntKind.i64.wrap (x1 + 1)) x2 (IntKind.i64.wrap (x3 + 1)) x4 x5).2.2.2.2)], ⟨[⟨true, (some (.cells [wsl 2, wsl 1]))⟩, ⟨true, (some (.tab [.int .i8, .int .i16, .fl .f32] x4))⟩, ⟨true, (some (.strs x5))⟩], 3, []⟩))
                  none))))))
            (cond (decide ((x0 : Int) < (c189.1)))
             (a23l1 x0 x1 x2 x3 x4 x5 (0, x0, (IntKind.i64.wrap (x1 + 1)), 0, 0))
             (cond (decide (((IntKind.i64.wrap (x0 + (IntKind.i64.wrap ((c189.2) - (c189.1))))) : Int) > 20))
              (a23l1 x0 x1 x2 x3 x4 x5 (0, (IntKind.i64.wrap (x0 + (IntKind.i64.wrap ((c189.2) - (c189.1))))), (IntKind.i64.wrap (x1 + 1)), 0, 0))
              (cond ((((x4.getD (Int.toNat x3) []).getD 0 0) : Int) == 4)
               (cond (((IntKind.i64.wrap (x0 + (IntKind.i64.wrap ((c189.2) - (c189.1))))) : Int) != 0)
                (a23l1 x0 x1 x2 x3 x4 x5 (0, (IntKind.i64.wrap (x0 + (IntKind.i64.wrap ((c189.2) - (c189.1))))), (IntKind.i64.wrap (x1 + 1)), 0, 0))
                (u23l1 x0 x1 x2 x3 x4 x5 (ih (IntKind.i64.wrap (x0 + (IntKind.i64.wrap ((c189.2) - (c189.1))))) (IntKind.i64.wrap (x1 + 1)) x2 (IntKind.i64.wrap (x3 + 1)) x4 x5)))
               (cond (Nat.beq ((ih (IntKind.i64.wrap (x0 + (IntKind.i64.wrap ((c189.2) - (c189.1))))) (IntKind.i64.wrap (x1 + 1)) x2 (IntKind.i64.wrap (x3 + 1)) x4 x5).1) 0)
                (some (.ret, frameOf 161 [1, 2, 5, 6] [vp 0, .bool false, vi ((ih (IntKind.i64.wrap (x0 + (IntKind.i64.wrap ((c189.2) - (c189.1))))) (IntKind.i64.wrap (x1 + 1)) x2 (IntKind.i64.wrap (x3 + 1)) x4 x5).2.1), vi ((ih (IntKind.i64.wrap (x0 + (IntKind.i64.wrap ((c189.2) - (c189.1))))) (IntKind.i64.wrap (x1 + 1)) x2 (IntKind.i64.wrap (x3 + 1)) x4 x5).2.2.1)], ⟨[⟨true, (some (.cells [wsl 2, wsl 1]))⟩, ⟨true, (some (.tab [.int .i8, .int .i16, .fl .f32] x4))⟩, ⟨true, (some (.strs x5))⟩], 3, []⟩))
                (cond (Nat.beq ((ih (IntKind.i64.wrap (x0 + (IntKind.i64.wrap ((c189.2) - (c189.1))))) (IntKind.i64.wrap (x1 + 1)) x2 (IntKind.i64.wrap (x3 + 1)) x4 x5).1) 1)
                 (some (.exit 2, frameOf 161 [1, 2, 5, 6] [vp 0, anyV, vi ((ih (IntKind.i64.wrap (x0 + (IntKind.i64.wrap ((c189.2) - (c189.1))))) (IntKind.i64.wrap (x1 + 1)) x2 (IntKind.i64.wrap (x3 + 1)) x4 x5).2.2.2.1), vi ((ih (IntKind.i64.wrap (x0 + (IntKind.i64.wrap ((c189.2) - (c189.1))))) (IntKind.i64.wrap (x1 + 1)) x2 (IntKind.i64.wrap (x3 + 1)) x4 x5).2.2.2.2)], ⟨[⟨true, (some (.cells [wsl 2, wsl 1]))⟩, ⟨true, (some (.tab [.int .i8, .int .i16, .fl .f32] x4))⟩, ⟨true, (some (.strs x5))⟩], 3, []⟩))
                 none))))))))
         (cond (((IntKind.i64.wrap ((x4.getD (Int.toNat x3) []).getD 1 0)) : Int) != 0)
          (a23l1 x0 x1 x2 x3 x4 x5 (0, x0, x1, 0, 0))
          (cond ((((x4.getD (Int.toNat x3) []).getD 0 0) : Int) != 1)
           (cond (!c188)
            (a23l1 x0 x1 x2 x3 x4 x5 (0, x0, x1, 0, 0))
            (cond (decide ((x0 : Int) < (c189.1)))
             (a23l1 x0 x1 x2 x3 x4 x5 (0, x0, x1, 0, 0))
             (cond (decide (((IntKind.i64.wrap (x0 + (IntKind.i64.wrap ((c189.2) - (c189.1))))) : Int) > 20))
              (a23l1 x0 x1 x2 x3 x4 x5 (0, (IntKind.i64.wrap (x0 + (IntKind.i64.wrap ((c189.2) - (c189.1))))), x1, 0, 0))
              (cond ((((x4.getD (Int.toNat x3) []).getD 0 0) : Int) == 4)
               (cond (((IntKind.i64.wrap (x0 + (IntKind.i64.wrap ((c189.2) - (c189.1))))) : Int) != 0)
                (some (.ret, frameOf 161 [1, 2, 5, 6] [vp 0, .bool false, vi (IntKind.i64.wrap (x0 + (IntKind.i64.wrap ((c189.2) - (c189.1))))), vi x1], ⟨[⟨true, (some (.cells [wsl 2, wsl 1]))⟩, ⟨true, (some (.tab [.int .i8, .int .i16, .fl .f32] x4))⟩, ⟨true, (some (.strs x5))⟩], 3, []⟩))
                (cond (Nat.beq ((ih (IntKind.i64.wrap (x0 + (IntKind.i64.wrap ((c189.2) - (c189.1))))) x1 x2 (IntKind.i64.wrap (x3 + 1)) x4 x5).1) 0)
                 (some (.ret, frameOf 161 [1, 2, 5, 6] [vp 0, .bool false, vi ((ih (IntKind.i64.wrap (x0 + (IntKind.i64.wrap ((c189.2) - (c189.1))))) x1 x2 (IntKind.i64.wrap (x3 + 1)) x4 x5).2.1), vi ((ih (IntKind.i64.wrap (x0 + (IntKind.i64.wrap ((c189.2) - (c189.1))))) x1 x2 (IntKind.i64.wrap (x3 + 1)) x4 x5).2.2.1)], ⟨[⟨true, (some (.cells [wsl 2, wsl 1]))⟩, ⟨true, (some (.tab [.int .i8, .int .i16, .fl .f32] x4))⟩, ⟨true, (some (.strs x5))⟩], 3, []⟩))
                 (cond (Nat.beq ((ih (IntKind.i64.wrap (x0 + (IntKind.i64.wrap ((c189.2) - (c189.1))))) x1 x2 (IntKind.i64.wrap (x3 + 1)) x4 x5).1) 1)
                  (some (.exit 2, frameOf 161 [1, 2, 5, 6] [vp 0, anyV, vi ((ih (IntKind.i64.wrap (x0 + (IntKind.i64.wrap ((c189.2) - (c189.1))))) x1 x2 (IntKind.i64.wrap (x3 + 1)) x4 x5).2.2.2.1), vi ((ih (IntKind.i64.wrap (x0 + (IntKind.i64.wrap ((c189.2) - (c189.1))))) x1 x2 (IntKind.i64.wrap (x3 + 1)) x4 x5).2.2.2.2)], ⟨[⟨true, (some (.cells [wsl 2, wsl 1]))⟩, ⟨true, (some (.tab [.int .i8, .int .i16, .fl .f32] x4))⟩, ⟨true, (some (.strs x5))⟩], 3, []⟩))
                  none)))
               (u23l1 x0 x1 x2 x3 x4 x5 (ih (IntKind.i64.wrap (x0 + (IntKind.i64.wrap ((c189.2) - (c189.1))))) x1 x2 (IntKind.i64.wrap (x3 + 1)) x4 x5))))))
           (cond (decide ((x0 : Int) < (c189.1)))
            (a23l1 x0 x1 x2 x3 x4 x5 (0, x0, x1, 0, 0))
            (cond (decide (((IntKind.i64.wrap (x0 + (IntKind.i64.wrap ((c189.2) - (c189.1))))) : Int) > 20))
             (a23l1 x0 x1 x2 x3 x4 x5 (0, (IntKind.i64.wrap (x0 + (IntKind.i64.wrap ((c189.2) - (c189.1))))), x1, 0, 0))
             (cond ((((x4.getD (Int.toNat x3) []).getD 0 0) : Int) == 4)
              (cond (((IntKind.i64.wrap (x0 + (IntKind.i64.wrap ((c189.2) - (c189.1))))) : Int) != 0)
               (some (.ret, frameOf 161 [1, 2, 5, 6] [vp 0, .bool false, vi (IntKind.i64.wrap (x0 + (IntKind.i64.wrap ((c189.2) - (c189.1))))), vi x1], ⟨[⟨true, (some (.cells [wsl 2, wsl 1]))⟩, ⟨true, (some (.tab [.int .i8, .int .i16, .fl .f32] x4))⟩, ⟨true, (some (.strs x5))⟩], 3, []⟩))
               (cond (Nat.beq ((ih (IntKind.i64.wrap (x0 + (IntKind.i64.wrap ((c189.2) - (c189.1))))) x1 x2 (IntKind.i64.wrap (x3 + 1)) x4 x5).1) 0)
                (some (.ret, frameOf 161 [1, 2, 5, 6] [vp 0, .bool false, vi ((ih (IntKind.i64.wrap (x0 + (IntKind.i64.wrap ((c189.2) - (c189.1))))) x1 x2 (IntKind.i64.wrap (x3 + 1)) x4 x5).2.1), vi ((ih (IntKind.i64.wrap (x0 + (IntKind.i64.wrap ((c189.2) - (c189.1))))) x1 x2 (IntKind.i64.wrap (x3 + 1)) x4 x5).2.2.1)], ⟨[⟨true, (some (.cells [wsl 2, wsl 1]))⟩, ⟨true, (some (.tab [.int .i8, .int .i16, .fl .f32] x4))⟩, ⟨true, (some (.strs x5))⟩], 3, []⟩))
                (cond (Nat.beq ((ih (IntKind.i64.wrap (x0 + (IntKind.i64.wrap ((c189.2) - (c189.1))))) x1 x2 (IntKind.i64.wrap (x3 + 1)) x4 x5).1) 1)
                 (some (.exit 2, frameOf 161 [1, 2, 5, 6] [vp 0, anyV, vi ((ih (IntKind.i64.wrap (x0 + (IntKind.i64.wrap ((c189.2) - (c189.1))))) x1 x2 (IntKind.i64.wrap (x3 + 1)) x4 x5).2.2.2.1), vi ((ih (IntKind.i64.wrap (x0 + (IntKind.i64.wrap ((c189.2) - (c189.1))))) x1 x2 (IntKind.i64.wrap (x3 + 1)) x4 x5).2.2.2.2)], ⟨[⟨true, (some (.cells [wsl 2, wsl 1]))⟩, ⟨true, (some (.tab [.int .i8, .int .i16, .fl .f32] x4))⟩, ⟨true, (some (.strs x5))⟩], 3, []⟩))
                 none)))
              (u23l1 x0 x1 x2 x3 x4 x5 (ih (IntKind.i64.wrap (x0 + (IntKind.i64.wrap ((c189.2) - (c189.1))))) x1 x2 (IntKind.i64.wrap (x3 + 1)) x4 x5)))))))))))))
   none)
  none)
 (a23l1 x0 x1 x2 x3 x4 x5 (1, 0, 0, x0, x1)))
set_option maxRecDepth 100000 in
set_option maxHeartbeats 4000000 in
theorem e23l1 (m : Nat) (x0 x1 x2 x3 : Int) (x4 : List (List Int)) (x5 : List ByteArray) : evC Tryd.prog ext T33 L23_1 200 (loopN Tryd.f23 1) (loopTail ([1, 5, 6, 43, 44, 45], []) [1, 2, 5, 6] [] (sumK 161 [1, 5, 6, 43, 44, 45] [1, 2, 5, 6] (q23l1 m))) (frameOf 161 [1, 5, 6, 43, 44, 45] [vp 0, vi x0, vi x1, wsl 1, vi x2, vi x3]) ⟨[⟨true, (some (.cells [wsl 2, wsl 1]))⟩, ⟨true, (some (.tab [.int .i8, .int .i16, .fl .f32] x4))⟩, ⟨true, (some (.strs x5))⟩], 3, []⟩ = firstT ([((Nat.beq ((r23l1 (m + 1) x0 x1 x2 x3 x4 x5).1) 0), .ret, [vp 0, .bool false, vi ((r23l1 (m + 1) x0 x1 x2 x3 x4 x5).2.1), vi ((r23l1 (m + 1) x0 x1 x2 x3 x4 x5).2.2.1)], ⟨[⟨true, (some (.cells [wsl 2, wsl 1]))⟩, ⟨true, (some (.tab [.int .i8, .int .i16, .fl .f32] x4))⟩, ⟨true, (some (.strs x5))⟩], 3, []⟩), ((Nat.beq ((r23l1 (m + 1) x0 x1 x2 x3 x4 x5).1) 1), .exit 2, [vp 0, anyV, vi ((r23l1 (m + 1) x0 x1 x2 x3 x4 x5).2.2.2.1), vi ((r23l1 (m + 1) x0 x1 x2 x3 x4 x5).2.2.2.2)], ⟨[⟨true, (some (.cells [wsl 2, wsl 1]))⟩, ⟨true, (some (.tab [.int .i8, .int .i16, .fl .f32] x4))⟩, ⟨true, (some (.strs x5))⟩], 3, []⟩)].map fun (b, x) => (b, (x.1, frameOf 161 [1, 2, 5, 6] x.2.1, x.2.2))) :=
 (show evC Tryd.prog ext T33 L23_1 200 (loopN Tryd.f23 1) (loopTail ([1, 5, 6, 43, 44, 45], []) [1, 2, 5, 6] [] (sumK 161 [1, 5, 6, 43, 44, 45] [1, 2, 5, 6] (q23l1 m))) (frameOf 161 [1, 5, 6, 43, 44, 45] [vp 0, vi x0, vi x1, wsl 1, vi x2, vi x3]) ⟨[⟨true, (some (.cells [wsl 2, wsl 1]))⟩, ⟨true, (some (.tab [.int .i8, .int .i16, .fl .f32] x4))⟩, ⟨true, (some (.strs x5))⟩], 3, []⟩ = w23l1 (r23l1 m) x0 x1 x2 x3 x4 x5 from by kernel_rfl).trans
 (show w23l1 (r23l1 m) x0 x1 x2 x3 x4 x5 = a23l1 x0 x1 x2 x3 x4 x5 (r23l1 (m + 1) x0 x1 x2 x3 x4 x5) from by unfold w23l1; show _ = a23l1 x0 x1 x2 x3 x4 x5 (b23l1 (r23l1 m) x0 x1 x2 x3 x4 x5); unfold b23l1; exact (cond_both (a23l1 x0 x1 x2 x3 x4 x5) _ (fun h0 => (cond_both (a23l1 x0 x1 x2 x3 x4 x5) _ (fun h1 => (cond_t (ev_and2 h1) (cond_both (a23l1 x0 x1 x2 x3 x4 x5) _ (fun h2 => rfl) (fun h2 => (cond_both (a23l1 x0 x1 x2 x3 x4 x5) _ (fun h3 => rfl) (fun h3 => (cond_both (a23l1 x0 x1 x2 x3 x4 x5) _ (fun h4 => (cond_both (a23l1 x0 x1 x2 x3 x4 x5) _ (fun h5 => rfl) (fun h5 => (cond_both (a23l1 x0 x1 x2 x3 x4 x5) _ (fun h6 => rfl) (fun h6 => (cond_both (a23l1 x0 x1 x2 x3 x4 x5) _ (fun h7 => (cond_both (a23l1 x0 x1 x2 x3 x4 x5) _ (fun h8 => rfl) (fun h8 => (cond_both (a23l1 x0 x1 x2 x3 x4 x5) _ (fun h9 => (cond_f (ev_not0 (ev_notf h8)) (cond_app (a23l1 x0 x1 x2 x3 x4 x5) _ rfl (cond_app (a23l1 x0 x1 x2 x3 x4 x5) _ rfl (cond_app (a23l1 x0 x1 x2 x3 x4 x5) _ (cond_app (a23l1 x0 x1 x2 x3 x4 x5) _ rfl (v23l1 x0 x1 x2 x3 x4 x5 ((r23l1 m) (IntKind.i64.wrap (x0 + (IntKind.i64.wrap (((r53 ((x4.getD (Int.toNat x3) []).getD 0 0)).2) - ((r53 ((x4.getD (Int.toNat x3) []).getD 0 0)).1))))) x1 x2 (IntKind.i64.wrap (x3 + 1)) x4 x5))) (v23l1 x0 x1 x2 x3 x4 x5 ((r23l1 m) (IntKind.i64.wrap (x0 + (IntKind.i64.wrap (((r53 ((x4.getD (Int.toNat x3) []).getD 0 0)).2) - ((r53 ((x4.getD (Int.toNat x3) []).getD 0 0)).1))))) x1 x2 (IntKind.i64.wrap (x3 + 1)) x4 x5))))))) (fun h9 => (cond_app (a23l1 x0 x1 x2 x3 x4 x5) _ rfl (cond_app (a23l1 x0 x1 x2 x3 x4 x5) _ rfl (cond_app (a23l1 x0 x1 x2 x3 x4 x5) _ (cond_app (a23l1 x0 x1 x2 x3 x4 x5) _ rfl (v23l1 x0 x1 x2 x3 x4 x5 ((r23l1 m) (IntKind.i64.wrap (x0 + (IntKind.i64.wrap (((r53 ((x4.getD (Int.toNat x3) []).getD 0 0)).2) - ((r53 ((x4.getD (Int.toNat x3) []).getD 0 0)).1))))) x1 x2 (IntKind.i64.wrap (x3 + 1)) x4 x5))) (v23l1 x0 x1 x2 x3 x4 x5 ((r23l1 m) (IntKind.i64.wrap (x0 + (IntKind.i64.wrap (((r53 ((x4.getD (Int.toNat x3) []).getD 0 0)).2) - ((r53 ((x4.getD (Int.toNat x3) []).getD 0 0)).1))))) x1 x2 (IntKind.i64.wrap (x3 + 1)) x4 x5)))))))))) (fun h7 => (cond_app (a23l1 x0 x1 x2 x3 x4 x5) _ (cond_app (a23l1 x0 x1 x2 x3 x4 x5) _ rfl (cond_app (a23l1 x0 x1 x2 x3 x4 x5) _ rfl (cond_app (a23l1 x0 x1 x2 x3 x4 x5) _ rfl (cond_app (a23l1 x0 x1 x2 x3 x4 x5) _ (cond_app (a23l1 x0 x1 x2 x3 x4 x5) _ rfl (v23l1 x0 x1 x2 x3 x4 x5 ((r23l1 m) (IntKind.i64.wrap (x0 + (IntKind.i64.wrap (((r53 ((x4.getD (Int.toNat x3) []).getD 0 0)).2) - ((r53 ((x4.getD (Int.toNat x3) []).getD 0 0)).1))))) x1 x2 (IntKind.i64.wrap (x3 + 1)) x4 x5))) (v23l1 x0 x1 x2 x3 x4 x5 ((r23l1 m) (IntKind.i64.wrap (x0 + (IntKind.i64.wrap (((r53 ((x4.getD (Int.toNat x3) []).getD 0 0)).2) - ((r53 ((x4.getD (Int.toNat x3) []).getD 0 0)).1))))) x1 x2 (IntKind.i64.wrap (x3 + 1)) x4 x5)))))) (cond_app (a23l1 x0 x1 x2 x3 x4 x5) _ rfl (cond_app (a23l1 x0 x1 x2 x3 x4 x5) _ rfl (cond_app (a23l1 x0 x1 x2 x3 x4 x5) _ (cond_app (a23l1 x0 x1 x2 x3 x4 x5) _ rfl (v23l1 x0 x1 x2 x3 x4 x5 ((r23l1 m) (IntKind.i64.wrap (x0 + (IntKind.i64.wrap (((r53 ((x4.getD (Int.toNat x3) []).getD 0 0)).2) - ((r53 ((x4.getD (Int.toNat x3) []).getD 0 0)).1))))) x1 x2 (IntKind.i64.wrap (x3 + 1)) x4 x5))) (v23l1 x0 x1 x2 x3 x4 x5 ((r23l1 m) (IntKind.i64.wrap (x0 + (IntKind.i64.wrap (((r53 ((x4.getD (Int.toNat x3) []).getD 0 0)).2) - ((r53 ((x4.getD (Int.toNat x3) []).getD 0 0)).1))))) x1 x2 (IntKind.i64.wrap (x3 + 1)) x4 x5))))))))))))) (fun h4 => (cond_both (a23l1 x0 x1 x2 x3 x4 x5) _ (fun h5 => (cond_app (a23l1 x0 x1 x2 x3 x4 x5) _ rfl (cond_app (a23l1 x0 x1 x2 x3 x4 x5) _ rfl (cond_app (a23l1 x0 x1 x2 x3 x4 x5) _ (cond_app (a23l1 x0 x1 x2 x3 x4 x5) _ rfl (cond_app (a23l1 x0 x1 x2 x3 x4 x5) _ rfl (cond_app (a23l1 x0 x1 x2 x3 x4 x5) _ rfl (cond_app (a23l1 x0 x1 x2 x3 x4 x5) _ (cond_app (a23l1 x0 x1 x2 x3 x4 x5) _ rfl (v23l1 x0 x1 x2 x3 x4 x5 ((r23l1 m) (IntKind.i64.wrap (x0 + (IntKind.i64.wrap (((r53 ((x4.getD (Int.toNat x3) []).getD 0 0)).2) - ((r53 ((x4.getD (Int.toNat x3) []).getD 0 0)).1))))) x1 x2 (IntKind.i64.wrap (x3 + 1)) x4 x5))) (v23l1 x0 x1 x2 x3 x4 x5 ((r23l1 m) (IntKind.i64.wrap (x0 + (IntKind.i64.wrap (((r53 ((x4.getD (Int.toNat x3) []).getD 0 0)).2) - ((r53 ((x4.getD (Int.toNat x3) []).getD 0 0)).1))))) x1 x2 (IntKind.i64.wrap (x3 + 1)) x4 x5)))))) (cond_app (a23l1 x0 x1 x2 x3 x4 x5) _ rfl (cond_app (a23l1 x0 x1 x2 x3 x4 x5) _ rfl (cond_app (a23l1 x0 x1 x2 x3 x4 x5) _ (cond_app (a23l1 x0 x1 x2 x3 x4 x5) _ rfl (v23l1 x0 x1 x2 x3 x4 x5 ((r23l1 m) (IntKind.i64.wrap (x0 + (IntKind.i64.wrap (((r53 ((x4.getD (Int.toNat x3) []).getD 0 0)).2) - ((r53 ((x4.getD (Int.toNat x3) []).getD 0 0)).1))))) x1 x2 (IntKind.i64.wrap (x3 + 1)) x4 x5))) (v23l1 x0 x1 x2 x3 x4 x5 ((r23l1 m) (IntKind.i64.wrap (x0 + (IntKind.i64.wrap (((r53 ((x4.getD (Int.toNat x3) []).getD 0 0)).2) - ((r53 ((x4.getD (Int.toNat x3) []).getD 0 0)).1))))) x1 x2 (IntKind.i64.wrap (x3 + 1)) x4 x5))))))))) (fun h5 => (cond_both (a23l1 x0 x1 x2 x3 x4 x5) _ (fun h6 => (cond_app (a23l1 x0 x1 x2 x3 x4 x5) _ rfl (cond_app (a23l1 x0 x1 x2 x3 x4 x5) _ rfl (cond_app (a23l1 x0 x1 x2 x3 x4 x5) _ (cond_app (a23l1 x0 x1 x2 x3 x4 x5) _ rfl (cond_app (a23l1 x0 x1 x2 x3 x4 x5) _ rfl (cond_app (a23l1 x0 x1 x2 x3 x4 x5) _ rfl (cond_app (a23l1 x0 x1 x2 x3 x4 x5) _ (cond_app (a23l1 x0 x1 x2 x3 x4 x5) _ rfl (v23l1 x0 x1 x2 x3 x4 x5 ((r23l1 m) (IntKind.i64.wrap (x0 + (IntKind.i64.wrap (((r53 ((x4.getD (Int.toNat x3) []).getD 0 0)).2) - ((r53 ((x4.getD (Int.toNat x3) []).getD 0 0)).1))))) x1 x2 (IntKind.i64.wrap (x3 + 1)) x4 x5))) (v23l1 x0 x1 x2 x3 x4 x5 ((r23l1 m) (IntKind.i64.wrap (x0 + (IntKind.i64.wrap (((r53 ((x4.getD (Int.toNat x3) []).getD 0 0)).2) - ((r53 ((x4.getD (Int.toNat x3) []).getD 0 0)).1))))) x1 x2 (IntKind.i64.wrap (x3 + 1)) x4 x5)))))) (cond_app (a23l1 x0 x1 x2 x3 x4 x5) _ rfl (cond_app (a23l1 x0 x1 x2 x3 x4 x5) _ rfl (cond_app (a23l1 x0 x1 x2 x3 x4 x5) _ (cond_app (a23l1 x0 x1 x2 x3 x4 x5) _ rfl (v23l1 x0 x1 x2 x3 x4 x5 ((r23l1 m) (IntKind.i64.wrap (x0 + (IntKind.i64.wrap (((r53 ((x4.getD (Int.toNat x3) []).getD 0 0)).2) - ((r53 ((x4.getD (Int.toNat x3) []).getD 0 0)).1))))) x1 x2 (IntKind.i64.wrap (x3 + 1)) x4 x5))) (v23l1 x0 x1 x2 x3 x4 x5 ((r23l1 m) (IntKind.i64.wrap (x0 + (IntKind.i64.wrap (((r53 ((x4.getD (Int.toNat x3) []).getD 0 0)).2) - ((r53 ((x4.getD (Int.toNat x3) []).getD 0 0)).1))))) x1 x2 (IntKind.i64.wrap (x3 + 1)) x4 x5))))))))) (fun h6 => (cond_both (a23l1 x0 x1 x2 x3 x4 x5) _ (fun h7 => (cond_both (a23l1 x0 x1 x2 x3 x4 x5) _ (fun h8 => rfl) (fun h8 => (cond_both (a23l1 x0 x1 x2 x3 x4 x5) _ (fun h9 => rfl) (fun h9 => (cond_both (a23l1 x0 x1 x2 x3 x4 x5) _ (fun h10 => (cond_both (a23l1 x0 x1 x2 x3 x4 x5) _ (fun h11 => rfl) (fun h11 => (cond_both (a23l1 x0 x1 x2 x3 x4 x5) _ (fun h12 => rfl) (fun h12 => (cond_both (a23l1 x0 x1 x2 x3 x4 x5) _ (fun h13 => rfl) (fun h13 => (cond_t h7 (cond_app (a23l1 x0 x1 x2 x3 x4 x5) _ rfl (v23l1 x0 x1 x2 x3 x4 x5 ((r23l1 m) (IntKind.i64.wrap (x0 + (IntKind.i64.wrap (((r53 ((x4.getD (Int.toNat x3) []).getD 0 0)).2) - ((r53 ((x4.getD (Int.toNat x3) []).getD 0 0)).1))))) (IntKind.i64.wrap (x1 + 1)) x2 (IntKind.i64.wrap (x3 + 1)) x4 x5))))))))))) (fun h10 => (cond_both (a23l1 x0 x1 x2 x3 x4 x5) _ (fun h11 => rfl) (fun h11 => (cond_both (a23l1 x0 x1 x2 x3 x4 x5) _ (fun h12 => rfl) (fun h12 => (cond_t h7 (cond_app (a23l1 x0 x1 x2 x3 x4 x5) _ rfl (v23l1 x0 x1 x2 x3 x4 x5 ((r23l1 m) (IntKind.i64.wrap (x0 + (IntKind.i64.wrap (((r53 ((x4.getD (Int.toNat x3) []).getD 0 0)).2) - ((r53 ((x4.getD (Int.toNat x3) []).getD 0 0)).1))))) (IntKind.i64.wrap (x1 + 1)) x2 (IntKind.i64.wrap (x3 + 1)) x4 x5))))))))))))))) (fun h7 => (cond_both (a23l1 x0 x1 x2 x3 x4 x5) _ (fun h8 => rfl) (fun h8 => (cond_both (a23l1 x0 x1 x2 x3 x4 x5) _ (fun h9 => (cond_both (a23l1 x0 x1 x2 x3 x4 x5) _ (fun h10 => rfl) (fun h10 => (cond_both (a23l1 x0 x1 x2 x3 x4 x5) _ (fun h11 => rfl) (fun h11 => (cond_both (a23l1 x0 x1 x2 x3 x4 x5) _ (fun h12 => rfl) (fun h12 => (cond_f h7 (v23l1 x0 x1 x2 x3 x4 x5 ((r23l1 m) (IntKind.i64.wrap (x0 + (IntKind.i64.wrap (((r53 ((x4.getD (Int.toNat x3) []).getD 0 0)).2) - ((r53 ((x4.getD (Int.toNat x3) []).getD 0 0)).1))))) x1 x2 (IntKind.i64.wrap (x3 + 1)) x4 x5)))))))))) (fun h9 => (cond_both (a23l1 x0 x1 x2 x3 x4 x5) _ (fun h10 => rfl) (fun h10 => (cond_both (a23l1 x0 x1 x2 x3 x4 x5) _ (fun h11 => rfl) (fun h11 => (cond_f h7 (v23l1 x0 x1 x2 x3 x4 x5 ((r23l1 m) (IntKind.i64.wrap (x0 + (IntKind.i64.wrap (((r53 ((x4.getD (Int.toNat x3) []).getD 0 0)).2) - ((r53 ((x4.getD (Int.toNat x3) []).getD 0 0)).1))))) x1 x2 (IntKind.i64.wrap (x3 + 1)) x4 x5))))))))))))))))))))))))) (fun h1 => rfl))) (fun h0 => rfl)))
set_option maxRecDepth 100000 in
set_option maxHeartbeats 4000000 in
theorem qm23l1 : ∀ m, SumKOk Tryd.prog (loopN Tryd.f23 1) 161 [1, 5, 6, 43, 44, 45] [1, 2, 5, 6] (q23l1 m) := by
  intro m
  induction m with
  | zero =>
    intro vals s x h1 h2 h3
    unfold q23l1 at h3; split at h3
    · rename_i h; split at h3
      · rename_i hc; obtain ⟨rfl, rfl, rfl, rfl, rfl, rfl⟩ := hc; exact absurd h3 (by simp [r23l1, firstT, Nat.beq])
      · exact noQ_ok _ _ _ h1 h2 h3
    · exact noQ_ok _ _ _ h1 h2 h3
  | succ m ih =>
    intro vals s x h1 h2 h3
    unfold q23l1 at h3; split at h3
    · rename_i h; split at h3
      · rename_i hc; obtain ⟨rfl, rfl, rfl, rfl, rfl, rfl⟩ := hc; exact sum_step ok33 extOk mixed (lok23_1.inner (by kernel_rfl)) ih h1 h2 h (e23l1 m _ _ _ _ _ _) rfl h3
      · exact noQ_ok _ _ _ h1 h2 h3
    · exact noQ_ok _ _ _ h1 h2 h3
noncomputable def Q23l1 : SumK := fun vals s => q23l1 (fuelOf vals s.h) vals s
theorem qok23l1 : SumKOk Tryd.prog (loopN Tryd.f23 1) 161 [1, 5, 6, 43, 44, 45] [1, 2, 5, 6] Q23l1 := fuel_ok qm23l1 fuelOf
noncomputable def L23_2 : LoopT := addL L23_1 12 ([1, 5, 6, 43, 44, 45], []) (sumK 161 [1, 5, 6, 43, 44, 45] [1, 2, 5, 6] Q23l1)
theorem lok23_2 : LfOkF Tryd.prog L23_2 Tryd.f23 := lfOkF_add lok23_1 qok23l1 (by kernel_rfl) (by kernel_rfl) (by kernel_rfl)

/-- impl.ValidProgram -/
noncomputable def w23 {α : Type} (x0 : List ByteArray) (x1 : List (List Int)) (k : (Nat × Bool) → α) : α :=
 let c153 := (r23l0 (1000 + x1.length + x0.length) ((x0.length : Nat) : Int) 0 x0 x1)
 let c190 := (r23l1 (1000 + x0.length + x1.length) 0 0 ((x1.length : Nat) : Int) 0 x1 x0)
 cond (decide ((((x0.length : Nat) : Int) : Int) > 12))
  (k (0, false))
  (cond (decide ((((x1.length : Nat) : Int) : Int) > 300))
   (k (0, false))
   (cond (Nat.beq c153 0)
    (k (0, false))
    (cond (Nat.beq c153 1)
     (cond (Nat.beq (c190.1) 0)
      (k (0, false))
      (cond (Nat.beq (c190.1) 1)
       (cond (((c190.2.2.2.1) : Int) == 0)
        (k (0, (((c190.2.2.2.2) : Int) == ((x0.length : Nat) : Int))))
        (k (0, false)))
       (k (1, false))))
     (k (1, false)))))
noncomputable def r23 (x0 : List ByteArray) (x1 : List (List Int)) : Nat × Bool := w23 x0 x1 (fun p => p)
noncomputable def g23 (x0 : List ByteArray) (x1 : List (List Int)) (p : Nat × Bool) : List (Bool × Value × St) := [((Nat.beq (p.1) 0), .bool (p.2), ⟨[⟨true, (some (.strs x0))⟩, ⟨true, (some (.tab [.int .i8, .int .i16, .fl .f32] x1))⟩], 2, []⟩)]
theorem p23 {α : Type} (x0 : List ByteArray) (x1 : List (List Int)) (f : (Nat × Bool) → α) : w23 x0 x1 f = f (w23 x0 x1 (fun p => p)) := by unfold w23; repeat' (first | refine cond_app f _ ?_ ?_ | rfl)
set_option maxRecDepth 100000 in
set_option maxHeartbeats 4000000 in
theorem e23 (x0 : List ByteArray) (x1 : List (List Int)) : evFn Tryd.prog ext T33 L23_2 200 Tryd.f23 [.agg #[wsl 0, wsl 1]] ⟨[⟨true, (some (.strs x0))⟩, ⟨true, (some (.tab [.int .i8, .int .i16, .fl .f32] x1))⟩], 2, []⟩ = firstT (g23 x0 x1 (r23 x0 x1)) :=
 Eq.trans (by kernel_rfl) (p23 x0 x1 (fun p => firstT (g23 x0 x1 p)))
noncomputable def s23 (args : List Value) (s : St) : List (Bool × Value × St) :=
 match args, s.h with
 | [.agg ⟨[.iface f0 .nilIface, .iface f1 .nilIface]⟩], [⟨true, some (.strs x0)⟩, ⟨true, some (.tab [.int .i8, .int .i16, .fl .f32] x1)⟩] => if f0 = 0 ∧ f1 = 1 then (g23 x0 x1 (r23 x0 x1)) else T33 23 args s
 | _, _ => T33 23 args s
noncomputable def T34 : CallF := addF T33 23 s23
set_option maxRecDepth 100000 in
set_option maxHeartbeats 4000000 in
theorem ok34 : CfOk Tryd.prog T34 := by
  refine cfOk_add ok33 fun args s r s' h1 h2 h3 => ?_
  unfold s23 at h3; split at h3
  · rename_i h; split at h3
    · rename_i hc; obtain ⟨rfl, rfl⟩ := hc; exact callOk ok33 Tryd.func23 h1 h2 h lok23_2.body (e23 _ _) rfl h3
    · exact ok33 _ _ _ _ _ h1 h2 h3
  · exact ok33 _ _ _ _ _ h1 h2 h3

/-- impl.opWords -/
noncomputable def w24 {α : Type} (k : Unit → α) : α :=
 k ()
noncomputable def r24 : Unit := w24 (fun p => p)
noncomputable def g24 (p : Unit) : List (Bool × Value × St) := [(true, .slice (some ⟨0, 0, some 0⟩) 13 13, ⟨[⟨true, (some (.strs ([(ByteArray.mk #[]), (ByteArray.mk #[112, 117, 115, 104]), (ByteArray.mk #[105, 110, 112, 117, 116]), (ByteArray.mk #[108, 111, 97, 100]), (ByteArray.mk #[115, 116, 111, 114, 101]), (ByteArray.mk #[97, 100, 100]), (ByteArray.mk #[115, 117, 98]), (ByteArray.mk #[109, 117, 108]), (ByteArray.mk #[108, 101, 115, 115]), (ByteArray.mk #[109, 105, 110]), (ByteArray.mk #[109, 97, 120]), (ByteArray.mk #[112, 105, 99, 107]), (ByteArray.mk #[110, 101, 103])] : List ByteArray)))⟩], 0, []⟩)]
theorem p24 {α : Type} (f : Unit → α) : w24 f = f (w24 (fun p => p)) := by unfold w24; exact rfl
set_option maxRecDepth 100000 in
set_option maxHeartbeats 4000000 in
theorem e24 : evFn Tryd.prog ext T34 noL 200 Tryd.f24 [] st0 = firstT (g24 r24) :=
 Eq.trans (by kernel_rfl) (p24 (fun p => firstT (g24 p)))
noncomputable def s24 (args : List Value) (s : St) : List (Bool × Value × St) :=
 match args, s.h with
 | [], [] => (g24 r24)
 | _, _ => T34 24 args s
noncomputable def T35 : CallF := addF T34 24 s24
set_option maxRecDepth 100000 in
set_option maxHeartbeats 4000000 in
theorem ok35 : CfOk Tryd.prog T35 := by
  refine cfOk_add ok34 fun args s r s' h1 h2 h3 => ?_
  unfold s24 at h3; split at h3
  · rename_i h; exact callOk ok34 Tryd.func24 h1 h2 h (lfOkF_no _ _).body (e24) rfl h3
  · exact ok34 _ _ _ _ _ h1 h2 h3

/-- impl.hex -/
noncomputable def w54 {α : Type} (x0 : Int) (k : (Nat × ByteArray) → α) : α :=
 cond ((decide ((0 : Int) ≤ (bits .and .u32 (Int.fdiv x0 (2 ^ (min (28 : Int).toNat (IntKind.bits .u32)))) 15))) && (Nat.blt (Int.toNat (bits .and .u32 (Int.fdiv x0 (2 ^ (min (28 : Int).toNat (IntKind.bits .u32)))) 15)) 16))
  (cond ((decide ((0 : Int) ≤ (bits .and .u32 (Int.fdiv x0 (2 ^ (min (24 : Int).toNat (IntKind.bits .u32)))) 15))) && (Nat.blt (Int.toNat (bits .and .u32 (Int.fdiv x0 (2 ^ (min (24 : Int).toNat (IntKind.bits .u32)))) 15)) 16))
   (cond ((decide ((0 : Int) ≤ (bits .and .u32 (Int.fdiv x0 (2 ^ (min (20 : Int).toNat (IntKind.bits .u32)))) 15))) && (Nat.blt (Int.toNat (bits .and .u32 (Int.fdiv x0 (2 ^ (min (20 : Int).toNat (IntKind.bits .u32)))) 15)) 16))
    (cond ((decide ((0 : Int) ≤ (bits .and .u32 (Int.fdiv x0 (2 ^ (min (16 : Int).toNat (IntKind.bits .u32)))) 15))) && (Nat.blt (Int.toNat (bits .and .u32 (Int.fdiv x0 (2 ^ (min (16 : Int).toNat (IntKind.bits .u32)))) 15)) 16))
     (cond ((decide ((0 : Int) ≤ (bits .and .u32 (Int.fdiv x0 (2 ^ (min (12 : Int).toNat (IntKind.bits .u32)))) 15))) && (Nat.blt (Int.toNat (bits .and .u32 (Int.fdiv x0 (2 ^ (min (12 : Int).toNat (IntKind.bits .u32)))) 15)) 16))
      (cond ((decide ((0 : Int) ≤ (bits .and .u32 (Int.fdiv x0 (2 ^ (min (8 : Int).toNat (IntKind.bits .u32)))) 15))) && (Nat.blt (Int.toNat (bits .and .u32 (Int.fdiv x0 (2 ^ (min (8 : Int).toNat (IntKind.bits .u32)))) 15)) 16))
       (cond ((decide ((0 : Int) ≤ (bits .and .u32 (Int.fdiv x0 (2 ^ (min (4 : Int).toNat (IntKind.bits .u32)))) 15))) && (Nat.blt (Int.toNat (bits .and .u32 (Int.fdiv x0 (2 ^ (min (4 : Int).toNat (IntKind.bits .u32)))) 15)) 16))
        (cond ((decide ((0 : Int) ≤ (bits .and .u32 (Int.fdiv x0 (2 ^ (min (0 : Int).toNat (IntKind.bits .u32)))) 15))) && (Nat.blt (Int.toNat (bits .and .u32 (Int.fdiv x0 (2 ^ (min (0 : Int).toNat (IntKind.bits .u32)))) 15)) 16))
         (k (0, (bytesOf ([[((UInt8.toNat (List.getD (ByteArray.data (ByteArray.mk #[48, 49, 50, 51, 52, 53, 54, 55, 56, 57, 97, 98, 99, 100, 101, 102])).toList (Int.toNat (bits .and .u32 (Int.fdiv x0 (2 ^ (min (28 : Int).toNat (IntKind.bits .u32)))) 15)) 0) : Nat) : Int)], [((UInt8.toNat (List.getD (ByteArray.data (ByteArray.mk #[48, 49, 50, 51, 52, 53, 54, 55, 56, 57, 97, 98, 99, 100, 101, 102])).toList (Int.toNat (bits .and .u32 (Int.fdiv x0 (2 ^ (min (24 : Int).toNat (IntKind.bits .u32)))) 15)) 0) : Nat) : Int)], [((UInt8.toNat (List.getD (ByteArray.data (ByteArray.mk #[48, 49, 50, 51, 52, 53, 54, 55, 56, 57, 97, 98, 99, 100, 101, 102])).toList (Int.toNat (bits .and .u32 (Int.fdiv x0 (2 ^ (min (20 : Int).toNat (IntKind.bits .u32)))) 15)) 0) : Nat) : Int)], [((UInt8.toNat (List.getD (ByteArray.data (ByteArray.mk #[48, 49, 50, 51, 52, 53, 54, 55, 56, 57, 97, 98, 99, 100, 101, 102])).toList (Int.toNat (bits .and .u32 (Int.fdiv x0 (2 ^ (min (16 : Int).toNat (IntKind.bits .u32)))) 15)) 0) : Nat) : Int)], [((UInt8.toNat (List.getD (ByteArray.data (ByteArray.mk #[48, 49, 50, 51, 52, 53, 54, 55, 56, 57, 97, 98, 99, 100, 101, 102])).toList (Int.toNat (bits .and .u32 (Int.fdiv x0 (2 ^ (min (12 : Int).toNat (IntKind.bits .u32)))) 15)) 0) : Nat) : Int)], [((UInt8.toNat (List.getD (ByteArray.data (ByteArray.mk #[48, 49, 50, 51, 52, 53, 54, 55, 56, 57, 97, 98, 99, 100, 101, 102])).toList (Int.toNat (bits .and .u32 (Int.fdiv x0 (2 ^ (min (8 : Int).toNat (IntKind.bits .u32)))) 15)) 0) : Nat) : Int)], [((UInt8.toNat (List.getD (ByteArray.data (ByteArray.mk #[48, 49, 50, 51, 52, 53, 54, 55, 56, 57, 97, 98, 99, 100, 101, 102])).toList (Int.toNat (bits .and .u32 (Int.fdiv x0 (2 ^ (min (4 : Int).toNat (IntKind.bits .u32)))) 15)) 0) : Nat) : Int)], [((UInt8.toNat (List.getD (ByteArray.data (ByteArray.mk #[48, 49, 50, 51, 52, 53, 54, 55, 56, 57, 97, 98, 99, 100, 101, 102])).toList (Int.toNat (bits .and .u32 (Int.fdiv x0 (2 ^ (min (0 : Int).toNat (IntKind.bits .u32)))) 15)) 0) : Nat) : Int)]] : List (List Int)))))
         (k (1, ByteArray.empty)))
        (k (1, ByteArray.empty)))
       (k (1, ByteArray.empty)))
      (k (1, ByteArray.empty)))
     (k (1, ByteArray.empty)))
    (k (1, ByteArray.empty)))
   (k (1, ByteArray.empty)))
  (k (1, ByteArray.empty))
noncomputable def r54 (x0 : Int) : Nat × ByteArray := w54 x0 (fun p => p)
noncomputable def g54 (x0 : Int) (p : Nat × ByteArray) : List (Bool × Value × St) := [((Nat.beq (p.1) 0), .string (p.2), st0)]
theorem p54 {α : Type} (x0 : Int) (f : (Nat × ByteArray) → α) : w54 x0 f = f (w54 x0 (fun p => p)) := by unfold w54; repeat' (first | refine cond_app f _ ?_ ?_ | rfl)
set_option maxRecDepth 100000 in
set_option maxHeartbeats 4000000 in
theorem e54 (x0 : Int) : evFn Tryd.prog ext T35 noL 200 Tryd.f54 [.int .u32 x0] st0 = firstT (g54 x0 (r54 x0)) :=
 Eq.trans (by kernel_rfl) (p54 x0 (fun p => firstT (g54 x0 p)))
noncomputable def s54 (args : List Value) (s : St) : List (Bool × Value × St) :=
 match args, s.h with
 | [.int .u32 x0], [] => (g54 x0 (r54 x0))
 | _, _ => T35 54 args s
noncomputable def T36 : CallF := addF T35 54 s54
set_option maxRecDepth 100000 in
set_option maxHeartbeats 4000000 in
theorem ok36 : CfOk Tryd.prog T36 := by
  refine cfOk_add ok35 fun args s r s' h1 h2 h3 => ?_
  unfold s54 at h3; split at h3
  · rename_i h; exact callOk ok35 Tryd.func54 h1 h2 h (lfOkF_no _ _).body (e54 _) rfl h3
  · exact ok35 _ _ _ _ _ h1 h2 h3

/-- impl.NumberText -/
noncomputable def r25 (x0 : Nat) : Nat × ByteArray :=
 cond (!feq .f32 x0 x0)
  (0, (ByteArray.mk #[55, 102, 99, 48, 48, 48, 48, 48]))
  (cond (Nat.beq ((r54 ((x0 : Nat) : Int)).1) 0)
   (0, ((r54 ((x0 : Nat) : Int)).2))
   (1, ByteArray.empty))
noncomputable def a25 (x0 : Nat) (p : Nat × ByteArray) : Res := firstT [((Nat.beq (p.1) 0), .string (p.2), st0)]
noncomputable def w25 (x0 : Nat) : Res :=
 (cond (!feq .f32 x0 x0)
 (a25 x0 (0, (ByteArray.mk #[55, 102, 99, 48, 48, 48, 48, 48])))
 (cond (!isN .f32 x0)
  (cond (Nat.beq ((r54 ((x0 : Nat) : Int)).1) 0)
   (a25 x0 (0, ((r54 ((x0 : Nat) : Int)).2)))
   none)
  none))
set_option maxRecDepth 100000 in
set_option maxHeartbeats 4000000 in
theorem e25 (x0 : Nat) : evFn Tryd.prog ext T36 noL 200 Tryd.f25 [vf x0] st0 = firstT [((Nat.beq ((r25 x0).1) 0), .string ((r25 x0).2), st0)] :=
 (show evFn Tryd.prog ext T36 noL 200 Tryd.f25 [vf x0] st0 = w25 x0 from by kernel_rfl).trans
 (show w25 x0 = a25 x0 (r25 x0) from by unfold w25 r25; exact (cond_both (a25 x0) _ (fun h0 => rfl) (fun h0 => (cond_t (ev_not1 (ev_eq1 (ev_notf h0))) (cond_app (a25 x0) _ rfl rfl)))))
noncomputable def s25 (args : List Value) (s : St) : List (Bool × Value × St) :=
 match args, s.h with
 | [.float .f32 x0], [] => [((Nat.beq ((r25 x0).1) 0), .string ((r25 x0).2), st0)]
 | _, _ => T36 25 args s
noncomputable def T37 : CallF := addF T36 25 s25
set_option maxRecDepth 100000 in
set_option maxHeartbeats 4000000 in
theorem ok37 : CfOk Tryd.prog T37 := by
  refine cfOk_add ok36 fun args s r s' h1 h2 h3 => ?_
  unfold s25 at h3; split at h3
  · rename_i h; exact callOk ok36 Tryd.func25 h1 h2 h (lfOkF_no _ _).body (e25 _) rfl h3
  · exact ok36 _ _ _ _ _ h1 h2 h3

/-- impl.ProgramText, loop 0: one round -/
noncomputable def b8l0 (ih : ByteArray → Int → Int → List (List Int) → List ByteArray → (Nat × ByteArray)) (x0 : ByteArray) (x1 x2 : Int) (x3 : List (List Int)) (x4 : List ByteArray) : Nat × ByteArray :=
 let c207 := (r25 (Int.toNat ((x3.getD (Int.toNat x2) []).getD 2 0)))
 cond (decide ((x2 : Int) < x1))
  (cond ((decide ((0 : Int) ≤ x2)) && (Nat.blt (Int.toNat x2) x3.length))
   (cond ((decide ((0 : Int) ≤ ((x3.getD (Int.toNat x2) []).getD 0 0))) && (Nat.blt (Int.toNat ((x3.getD (Int.toNat x2) []).getD 0 0)) 13))
    (cond (Nat.blt (0 + (Int.toNat ((x3.getD (Int.toNat x2) []).getD 0 0))) 13)
     (cond (decide (x0.size + (([(ByteArray.mk #[]), (ByteArray.mk #[112, 117, 115, 104]), (ByteArray.mk #[105, 110, 112, 117, 116]), (ByteArray.mk #[108, 111, 97, 100]), (ByteArray.mk #[115, 116, 111, 114, 101]), (ByteArray.mk #[97, 100, 100]), (ByteArray.mk #[115, 117, 98]), (ByteArray.mk #[109, 117, 108]), (ByteArray.mk #[108, 101, 115, 115]), (ByteArray.mk #[109, 105, 110]), (ByteArray.mk #[109, 97, 120]), (ByteArray.mk #[112, 105, 99, 107]), (ByteArray.mk #[110, 101, 103])] : List ByteArray).getD (0 + (Int.toNat ((x3.getD (Int.toNat x2) []).getD 0 0))) .empty).size ≤ strMax))
      (cond ((((x3.getD (Int.toNat x2) []).getD 0 0) : Int) == 1)
       (cond (Nat.beq (c207.1) 0)
        (cond (decide (1 + (c207.2).size ≤ strMax))
         (cond (decide ((x0 ++ (([(ByteArray.mk #[]), (ByteArray.mk #[112, 117, 115, 104]), (ByteArray.mk #[105, 110, 112, 117, 116]), (ByteArray.mk #[108, 111, 97, 100]), (ByteArray.mk #[115, 116, 111, 114, 101]), (ByteArray.mk #[97, 100, 100]), (ByteArray.mk #[115, 117, 98]), (ByteArray.mk #[109, 117, 108]), (ByteArray.mk #[108, 101, 115, 115]), (ByteArray.mk #[109, 105, 110]), (ByteArray.mk #[109, 97, 120]), (ByteArray.mk #[112, 105, 99, 107]), (ByteArray.mk #[110, 101, 103])] : List ByteArray).getD (0 + (Int.toNat ((x3.getD (Int.toNat x2) []).getD 0 0))) .empty)).size + ((ByteArray.mk #[32]) ++ (c207.2)).size ≤ strMax))
          (cond (decide (((x0 ++ (([(ByteArray.mk #[]), (ByteArray.mk #[112, 117, 115, 104]), (ByteArray.mk #[105, 110, 112, 117, 116]), (ByteArray.mk #[108, 111, 97, 100]), (ByteArray.mk #[115, 116, 111, 114, 101]), (ByteArray.mk #[97, 100, 100]), (ByteArray.mk #[115, 117, 98]), (ByteArray.mk #[109, 117, 108]), (ByteArray.mk #[108, 101, 115, 115]), (ByteArray.mk #[109, 105, 110]), (ByteArray.mk #[109, 97, 120]), (ByteArray.mk #[112, 105, 99, 107]), (ByteArray.mk #[110, 101, 103])] : List ByteArray).getD (0 + (Int.toNat ((x3.getD (Int.toNat x2) []).getD 0 0))) .empty)) ++ ((ByteArray.mk #[32]) ++ (c207.2))).size + 1 ≤ strMax))
           (ih (((x0 ++ (([(ByteArray.mk #[]), (ByteArray.mk #[112, 117, 115, 104]), (ByteArray.mk #[105, 110, 112, 117, 116]), (ByteArray.mk #[108, 111, 97, 100]), (ByteArray.mk #[115, 116, 111, 114, 101]), (ByteArray.mk #[97, 100, 100]), (ByteArray.mk #[115, 117, 98]), (ByteArray.mk #[109, 117, 108]), (ByteArray.mk #[108, 101, 115, 115]), (ByteArray.mk #[109, 105, 110]), (ByteArray.mk #[109, 97, 120]), (ByteArray.mk #[112, 105, 99, 107]), (ByteArray.mk #[110, 101, 103])] : List ByteArray).getD (0 + (Int.toNat ((x3.getD (Int.toNat x2) []).getD 0 0))) .empty)) ++ ((ByteArray.mk #[32]) ++ (c207.2))) ++ (ByteArray.mk #[10])) x1 (IntKind.i64.wrap (x2 + 1)) x3 x4)
           (1, ByteArray.empty))
          (1, ByteArray.empty))
         (1, ByteArray.empty))
        (1, ByteArray.empty))
       (cond ((((x3.getD (Int.toNat x2) []).getD 0 0) : Int) == 2)
        (cond (decide ((0 : Int) ≤ (IntKind.i64.wrap ((x3.getD (Int.toNat x2) []).getD 1 0))) && decide ((IntKind.i64.wrap ((x3.getD (Int.toNat x2) []).getD 1 0)) < 100))
         (cond (decide (1 + (digB (IntKind.i64.wrap ((x3.getD (Int.toNat x2) []).getD 1 0))).size ≤ strMax))
          (cond (decide ((x0 ++ (([(ByteArray.mk #[]), (ByteArray.mk #[112, 117, 115, 104]), (ByteArray.mk #[105, 110, 112, 117, 116]), (ByteArray.mk #[108, 111, 97, 100]), (ByteArray.mk #[115, 116, 111, 114, 101]), (ByteArray.mk #[97, 100, 100]), (ByteArray.mk #[115, 117, 98]), (ByteArray.mk #[109, 117, 108]), (ByteArray.mk #[108, 101, 115, 115]), (ByteArray.mk #[109, 105, 110]), (ByteArray.mk #[109, 97, 120]), (ByteArray.mk #[112, 105, 99, 107]), (ByteArray.mk #[110, 101, 103])] : List ByteArray).getD (0 + (Int.toNat ((x3.getD (Int.toNat x2) []).getD 0 0))) .empty)).size + ((ByteArray.mk #[32]) ++ (digB (IntKind.i64.wrap ((x3.getD (Int.toNat x2) []).getD 1 0)))).size ≤ strMax))
           (cond (decide (((x0 ++ (([(ByteArray.mk #[]), (ByteArray.mk #[112, 117, 115, 104]), (ByteArray.mk #[105, 110, 112, 117, 116]), (ByteArray.mk #[108, 111, 97, 100]), (ByteArray.mk #[115, 116, 111, 114, 101]), (ByteArray.mk #[97, 100, 100]), (ByteArray.mk #[115, 117, 98]), (ByteArray.mk #[109, 117, 108]), (ByteArray.mk #[108, 101, 115, 115]), (ByteArray.mk #[109, 105, 110]), (ByteArray.mk #[109, 97, 120]), (ByteArray.mk #[112, 105, 99, 107]), (ByteArray.mk #[110, 101, 103])] : List ByteArray).getD (0 + (Int.toNat ((x3.getD (Int.toNat x2) []).getD 0 0))) .empty)) ++ ((ByteArray.mk #[32]) ++ (digB (IntKind.i64.wrap ((x3.getD (Int.toNat x2) []).getD 1 0))))).size + 1 ≤ strMax))
            (ih (((x0 ++ (([(ByteArray.mk #[]), (ByteArray.mk #[112, 117, 115, 104]), (ByteArray.mk #[105, 110, 112, 117, 116]), (ByteArray.mk #[108, 111, 97, 100]), (ByteArray.mk #[115, 116, 111, 114, 101]), (ByteArray.mk #[97, 100, 100]), (ByteArray.mk #[115, 117, 98]), (ByteArray.mk #[109, 117, 108]), (ByteArray.mk #[108, 101, 115, 115]), (ByteArray.mk #[109, 105, 110]), (ByteArray.mk #[109, 97, 120]), (ByteArray.mk #[112, 105, 99, 107]), (ByteArray.mk #[110, 101, 103])] : List ByteArray).getD (0 + (Int.toNat ((x3.getD (Int.toNat x2) []).getD 0 0))) .empty)) ++ ((ByteArray.mk #[32]) ++ (digB (IntKind.i64.wrap ((x3.getD (Int.toNat x2) []).getD 1 0))))) ++ (ByteArray.mk #[10])) x1 (IntKind.i64.wrap (x2 + 1)) x3 x4)
            (1, ByteArray.empty))
           (1, ByteArray.empty))
          (1, ByteArray.empty))
         (1, ByteArray.empty))
        (cond ((((x3.getD (Int.toNat x2) []).getD 0 0) : Int) == 3)
         (cond ((decide ((0 : Int) ≤ ((x3.getD (Int.toNat x2) []).getD 1 0))) && (Nat.blt (Int.toNat ((x3.getD (Int.toNat x2) []).getD 1 0)) x4.length))
          (cond (decide (1 + (x4.getD (Int.toNat ((x3.getD (Int.toNat x2) []).getD 1 0)) .empty).size ≤ strMax))
           (cond (decide ((x0 ++ (([(ByteArray.mk #[]), (ByteArray.mk #[112, 117, 115, 104]), (ByteArray.mk #[105, 110, 112, 117, 116]), (ByteArray.mk #[108, 111, 97, 100]), (ByteArray.mk #[115, 116, 111, 114, 101]), (ByteArray.mk #[97, 100, 100]), (ByteArray.mk #[115, 117, 98]), (ByteArray.mk #[109, 117, 108]), (ByteArray.mk #[108, 101, 115, 115]), (ByteArray.mk #[109, 105, 110]), (ByteArray.mk #[109, 97, 120]), (ByteArray.mk #[112, 105, 99, 107]), (ByteArray.mk #[110, 101, 103])] : List ByteArray).getD (0 + (Int.toNat ((x3.getD (Int.toNat x2) []).getD 0 0))) .empty)).size + ((ByteArray.mk #[32]) ++ (x4.getD (Int.toNat ((x3.getD (Int.toNat x2) []).getD 1 0)) .empty)).size ≤ strMax))
            (cond (decide (((x0 ++ (([(ByteArray.mk #[]), (ByteArray.mk #[112, 117, 115, 104]), (ByteArray.mk #[105, 110, 112, 117, 116]), (ByteArray.mk #[108, 111, 97, 100]), (ByteArray.mk #[115, 116, 111, 114, 101]), (ByteArray.mk #[97, 100, 100]), (ByteArray.mk #[115, 117, 98]), (ByteArray.mk #[109, 117, 108]), (ByteArray.mk #[108, 101, 115, 115]), (ByteArray.mk #[109, 105, 110]), (ByteArray.mk #[109, 97, 120]), (ByteArray.mk #[112, 105, 99, 107]), (ByteArray.mk #[110, 101, 103])] : List ByteArray).getD (0 + (Int.toNat ((x3.getD (Int.toNat x2) []).getD 0 0))) .empty)) ++ ((ByteArray.mk #[32]) ++ (x4.getD (Int.toNat ((x3.getD (Int.toNat x2) []).getD 1 0)) .empty))).size + 1 ≤ strMax))
             (ih (((x0 ++ (([(ByteArray.mk #[]), (ByteArray.mk #[112, 117, 115, 104]), (ByteArray.mk #[105, 110, 112, 117, 116]), (ByteArray.mk #[108, 111, 97, 100]), (ByteArray.mk #[115, 116, 111, 114, 101]), (ByteArray.mk #[97, 100, 100]), (ByteArray.mk #[115, 117, 98]), (ByteArray.mk #[109, 117, 108]), (ByteArray.mk #[108, 101, 115, 115]), (ByteArray.mk #[109, 105, 110]), (ByteArray.mk #[109, 97, 120]), (ByteArray.mk #[112, 105, 99, 107]), (ByteArray.mk #[110, 101, 103])] : List ByteArray).getD (0 + (Int.toNat ((x3.getD (Int.toNat x2) []).getD 0 0))) .empty)) ++ ((ByteArray.mk #[32]) ++ (x4.getD (Int.toNat ((x3.getD (Int.toNat x2) []).getD 1 0)) .empty))) ++ (ByteArray.mk #[10])) x1 (IntKind.i64.wrap (x2 + 1)) x3 x4)
             (1, ByteArray.empty))
            (1, ByteArray.empty))
           (1, ByteArray.empty))
          (1, ByteArray.empty))
         (cond ((((x3.getD (Int.toNat x2) []).getD 0 0) : Int) == 4)
          (cond ((decide ((0 : Int) ≤ ((x3.getD (Int.toNat x2) []).getD 1 0))) && (Nat.blt (Int.toNat ((x3.getD (Int.toNat x2) []).getD 1 0)) x4.length))
           (cond (decide (1 + (x4.getD (Int.toNat ((x3.getD (Int.toNat x2) []).getD 1 0)) .empty).size ≤ strMax))
            (cond (decide ((x0 ++ (([(ByteArray.mk #[]), (ByteArray.mk #[112, 117, 115, 104]), (ByteArray.mk #[105, 110, 112, 117, 116]), (ByteArray.mk #[108, 111, 97, 100]), (ByteArray.mk #[115, 116, 111, 114, 101]), (ByteArray.mk #[97, 100, 100]), (ByteArray.mk #[115, 117, 98]), (ByteArray.mk #[109, 117, 108]), (ByteArray.mk #[108, 101, 115, 115]), (ByteArray.mk #[109, 105, 110]), (ByteArray.mk #[109, 97, 120]), (ByteArray.mk #[112, 105, 99, 107]), (ByteArray.mk #[110, 101, 103])] : List ByteArray).getD (0 + (Int.toNat ((x3.getD (Int.toNat x2) []).getD 0 0))) .empty)).size + ((ByteArray.mk #[32]) ++ (x4.getD (Int.toNat ((x3.getD (Int.toNat x2) []).getD 1 0)) .empty)).size ≤ strMax))
             (cond (decide (((x0 ++ (([(ByteArray.mk #[]), (ByteArray.mk #[112, 117, 115, 104]), (ByteArray.mk #[105, 110, 112, 117, 116]), (ByteArray.mk #[108, 111, 97, 100]), (ByteArray.mk #[115, 116, 111, 114, 101]), (ByteArray.mk #[97, 100, 100]), (ByteArray.mk #[115, 117, 98]), (ByteArray.mk #[109, 117, 108]), (ByteArray.mk #[108, 101, 115, 115]), (ByteArray.mk #[109, 105, 110]), (ByteArray.mk #[109, 97, 120]), (ByteArray.mk #[112, 105, 99, 107]), (ByteArray.mk #[110, 101, 103])] : List ByteArray).getD (0 + (Int.toNat ((x3.getD (Int.toNat x2) []).getD 0 0))) .empty)) ++ ((ByteArray.mk #[32]) ++ (x4.getD (Int.toNat ((x3.getD (Int.toNat x2) []).getD 1 0)) .empty))).size + 1 ≤ strMax))
              (ih (((x0 ++ (([(ByteArray.mk #[]), (ByteArray.mk #[112, 117, 115, 104]), (ByteArray.mk #[105, 110, 112, 117, 116]), (ByteArray.mk #[108, 111, 97, 100]), (ByteArray.mk #[115, 116, 111, 114, 101]), (ByteArray.mk #[97, 100, 100]), (ByteArray.mk #[115, 117, 98]), (ByteArray.mk #[109, 117, 108]), (ByteArray.mk #[108, 101, 115, 115]), (ByteArray.mk #[109, 105, 110]), (ByteArray.mk #[109, 97, 120]), (ByteArray.mk #[112, 105, 99, 107]), (ByteArray.mk #[110, 101, 103])] : List ByteArray).getD (0 + (Int.toNat ((x3.getD (Int.toNat x2) []).getD 0 0))) .empty)) ++ ((ByteArray.mk #[32]) ++ (x4.getD (Int.toNat ((x3.getD (Int.toNat x2) []).getD 1 0)) .empty))) ++ (ByteArray.mk #[10])) x1 (IntKind.i64.wrap (x2 + 1)) x3 x4)
              (1, ByteArray.empty))
             (1, ByteArray.empty))
            (1, ByteArray.empty))
           (1, ByteArray.empty))
          (cond (decide ((x0 ++ (([(ByteArray.mk #[]), (ByteArray.mk #[112, 117, 115, 104]), (ByteArray.mk #[105, 110, 112, 117, 116]), (ByteArray.mk #[108, 111, 97, 100]), (ByteArray.mk #[115, 116, 111, 114, 101]), (ByteArray.mk #[97, 100, 100]), (ByteArray.mk #[115, 117, 98]), (ByteArray.mk #[109, 117, 108]), (ByteArray.mk #[108, 101, 115, 115]), (ByteArray.mk #[109, 105, 110]), (ByteArray.mk #[109, 97, 120]), (ByteArray.mk #[112, 105, 99, 107]), (ByteArray.mk #[110, 101, 103])] : List ByteArray).getD (0 + (Int.toNat ((x3.getD (Int.toNat x2) []).getD 0 0))) .empty)).size + 1 ≤ strMax))
           (ih ((x0 ++ (([(ByteArray.mk #[]), (ByteArray.mk #[112, 117, 115, 104]), (ByteArray.mk #[105, 110, 112, 117, 116]), (ByteArray.mk #[108, 111, 97, 100]), (ByteArray.mk #[115, 116, 111, 114, 101]), (ByteArray.mk #[97, 100, 100]), (ByteArray.mk #[115, 117, 98]), (ByteArray.mk #[109, 117, 108]), (ByteArray.mk #[108, 101, 115, 115]), (ByteArray.mk #[109, 105, 110]), (ByteArray.mk #[109, 97, 120]), (ByteArray.mk #[112, 105, 99, 107]), (ByteArray.mk #[110, 101, 103])] : List ByteArray).getD (0 + (Int.toNat ((x3.getD (Int.toNat x2) []).getD 0 0))) .empty)) ++ (ByteArray.mk #[10])) x1 (IntKind.i64.wrap (x2 + 1)) x3 x4)
           (1, ByteArray.empty))))))
      (1, ByteArray.empty))
     (1, ByteArray.empty))
    (1, ByteArray.empty))
   (1, ByteArray.empty))
  (0, x0)
noncomputable def r8l0 : Nat → ByteArray → Int → Int → List (List Int) → List ByteArray → (Nat × ByteArray)
 | 0 => fun _ _ _ _ _ => (1, ByteArray.empty)
 | m + 1 => b8l0 (r8l0 m)
noncomputable def a8l0 (x0 : ByteArray) (x1 x2 : Int) (x3 : List (List Int)) (x4 : List ByteArray) (p : Nat × ByteArray) : Option (Fin' × List Value × St) := firstT ([((Nat.beq (p.1) 0), .exit 0, [.string (p.2)], ⟨[⟨true, (some (.cells [wsl 2, wsl 1]))⟩, ⟨true, (some (.tab [.int .i8, .int .i16, .fl .f32] x3))⟩, ⟨true, (some (.strs x4))⟩], 3, []⟩)].map fun (b, x) => (b, (x.1, frameOf 58 [3] x.2.1, x.2.2)))
noncomputable def u8l0 (x0 : ByteArray) (x1 x2 : Int) (x3 : List (List Int)) (x4 : List ByteArray) (p : Nat × ByteArray) : Option (Fin' × List Value × St) := alts ([((Nat.beq (p.1) 0), .exit 0, [.string (p.2)], ⟨[⟨true, (some (.cells [wsl 2, wsl 1]))⟩, ⟨true, (some (.tab [.int .i8, .int .i16, .fl .f32] x3))⟩, ⟨true, (some (.strs x4))⟩], 3, []⟩)].map fun (b, x) => (b, (x.1, frameOf 58 [3] x.2.1, x.2.2))) some
theorem v8l0 (x0 : ByteArray) (x1 x2 : Int) (x3 : List (List Int)) (x4 : List ByteArray) (p : Nat × ByteArray) : u8l0 x0 x1 x2 x3 x4 p = a8l0 x0 x1 x2 x3 x4 p := alts_first _
noncomputable def q8l0 (m : Nat) : SumK := fun vals s =>
 match vals, s.h with
 | [.pointer (some ⟨f0, f1, some f2⟩), .string x0, .iface f3 .nilIface, .int .i64 x1, .int .i64 x2], [⟨true, some (.cells [.iface f4 .nilIface, .iface f5 .nilIface])⟩, ⟨true, some (.tab [.int .i8, .int .i16, .fl .f32] x3)⟩, ⟨true, some (.strs x4)⟩] => if f0 = 0 ∧ f1 = 0 ∧ f2 = 0 ∧ f3 = 1 ∧ f4 = 2 ∧ f5 = 1 then [((Nat.beq ((r8l0 m x0 x1 x2 x3 x4).1) 0), .exit 0, [.string ((r8l0 m x0 x1 x2 x3 x4).2)], ⟨[⟨true, (some (.cells [wsl 2, wsl 1]))⟩, ⟨true, (some (.tab [.int .i8, .int .i16, .fl .f32] x3))⟩, ⟨true, (some (.strs x4))⟩], 3, []⟩)] else noQ vals s
 | _, _ => noQ vals s
noncomputable def w8l0 (ih : ByteArray → Int → Int → List (List Int) → List ByteArray → (Nat × ByteArray)) (x0 : ByteArray) (x1 x2 : Int) (x3 : List (List Int)) (x4 : List ByteArray) : Option (Fin' × List Value × St) :=
 let c207 := (r25 (Int.toNat ((x3.getD (Int.toNat x2) []).getD 2 0)))
 (cond (decide ((x2 : Int) < x1))
 (cond ((decide ((0 : Int) ≤ x2)) && (Nat.blt (Int.toNat x2) x3.length))
  (cond (Nat.blt (Int.toNat x2) x3.length)
   (cond ((decide ((0 : Int) ≤ ((x3.getD (Int.toNat x2) []).getD 0 0))) && (Nat.blt (Int.toNat ((x3.getD (Int.toNat x2) []).getD 0 0)) 13))
    (cond (Nat.blt (0 + (Int.toNat ((x3.getD (Int.toNat x2) []).getD 0 0))) 13)
     (cond (decide (x0.size + (([(ByteArray.mk #[]), (ByteArray.mk #[112, 117, 115, 104]), (ByteArray.mk #[105, 110, 112, 117, 116]), (ByteArray.mk #[108, 111, 97, 100]), (ByteArray.mk #[115, 116, 111, 114, 101]), (ByteArray.mk #[97, 100, 100]), (ByteArray.mk #[115, 117, 98]), (ByteArray.mk #[109, 117, 108]), (ByteArray.mk #[108, 101, 115, 115]), (ByteArray.mk #[109, 105, 110]), (ByteArray.mk #[109, 97, 120]), (ByteArray.mk #[112, 105, 99, 107]), (ByteArray.mk #[110, 101, 103])] : List ByteArray).getD (0 + (Int.toNat ((x3.getD (Int.toNat x2) []).getD 0 0))) .empty).size ≤ strMax))
      (cond ((((x3.getD (Int.toNat x2) []).getD 0 0) : Int) == 1)
       (cond (Nat.beq (c207.1) 0)
        (cond (decide (1 + (c207.2).size ≤ strMax))
         (cond (decide ((x0 ++ (([(ByteArray.mk #[]), (ByteArray.mk #[112, 117, 115, 104]), (ByteArray.mk #[105, 110, 112, 117, 116]), (ByteArray.mk #[108, 111, 97, 100]), (ByteArray.mk #[115, 116, 111, 114, 101]), (ByteArray.mk #[97, 100, 100]), (ByteArray.mk #[115, 117, 98]), (ByteArray.mk #[109, 117, 108]), (ByteArray.mk #[108, 101, 115, 115]), (ByteArray.mk #[109, 105, 110]), (ByteArray.mk #[109, 97, 120]), (ByteArray.mk #[112, 105, 99, 107]), (ByteArray.mk #[110, 101, 103])] : List ByteArray).getD (0 + (Int.toNat ((x3.getD (Int.toNat x2) []).getD 0 0))) .empty)).size + ((ByteArray.mk #[32]) ++ (c207.2)).size ≤ strMax))
          (cond (decide (((x0 ++ (([(ByteArray.mk #[]), (ByteArray.mk #[112, 117, 115, 104]), (ByteArray.mk #[105, 110, 112, 117, 116]), (ByteArray.mk #[108, 111, 97, 100]), (ByteArray.mk #[115, 116, 111, 114, 101]), (ByteArray.mk #[97, 100, 100]), (ByteArray.mk #[115, 117, 98]), (ByteArray.mk #[109, 117, 108]), (ByteArray.mk #[108, 101, 115, 115]), (ByteArray.mk #[109, 105, 110]), (ByteArray.mk #[109, 97, 120]), (ByteArray.mk #[112, 105, 99, 107]), (ByteArray.mk #[110, 101, 103])] : List ByteArray).getD (0 + (Int.toNat ((x3.getD (Int.toNat x2) []).getD 0 0))) .empty)) ++ ((ByteArray.mk #[32]) ++ (c207.2))).size + 1 ≤ strMax))
           (u8l0 x0 x1 x2 x3 x4 (ih (((x0 ++ (([(ByteArray.mk #[]), (ByteArray.mk #[112, 117, 115, 104]), (ByteArray.mk #[105, 110, 112, 117, 116]), (ByteArray.mk #[108, 111, 97, 100]), (ByteArray.mk #[115, 116, 111, 114, 101]), (ByteArray.mk #[97, 100, 100]), (ByteArray.mk #[115, 117, 98]), (ByteArray.mk #[109, 117, 108]), (ByteArray.mk #[108, 101, 115, 115]), (ByteArray.mk #[109, 105, 110]), (ByteArray.mk #[109, 97, 120]), (ByteArray.mk #[112, 105, 99, 107]), (ByteArray.mk #[110, 101, 103])] : List ByteArray).getD (0 + (Int.toNat ((x3.getD (Int.toNat x2) []).getD 0 0))) .empty)) ++ ((ByteArray.mk #[32]) ++ (c207.2))) ++ (ByteArray.mk #[10])) x1 (IntKind.i64.wrap (x2 + 1)) x3 x4))
           none)
          none)
         none)
        none)
       (cond ((((x3.getD (Int.toNat x2) []).getD 0 0) : Int) == 2)
        (cond (decide ((0 : Int) ≤ (IntKind.i64.wrap ((x3.getD (Int.toNat x2) []).getD 1 0))) && decide ((IntKind.i64.wrap ((x3.getD (Int.toNat x2) []).getD 1 0)) < 100))
         (cond (decide (1 + (digB (IntKind.i64.wrap ((x3.getD (Int.toNat x2) []).getD 1 0))).size ≤ strMax))
          (cond (decide ((x0 ++ (([(ByteArray.mk #[]), (ByteArray.mk #[112, 117, 115, 104]), (ByteArray.mk #[105, 110, 112, 117, 116]), (ByteArray.mk #[108, 111, 97, 100]), (ByteArray.mk #[115, 116, 111, 114, 101]), (ByteArray.mk #[97, 100, 100]), (ByteArray.mk #[115, 117, 98]), (ByteArray.mk #[109, 117, 108]), (ByteArray.mk #[108, 101, 115, 115]), (ByteArray.mk #[109, 105, 110]), (ByteArray.mk #[109, 97, 120]), (ByteArray.mk #[112, 105, 99, 107]), (ByteArray.mk #[110, 101, 103])] : List ByteArray).getD (0 + (Int.toNat ((x3.getD (Int.toNat x2) []).getD 0 0))) .empty)).size + ((ByteArray.mk #[32]) ++ (digB (IntKind.i64.wrap ((x3.getD (Int.toNat x2) []).getD 1 0)))).size ≤ strMax))
           (cond (decide (((x0 ++ (([(ByteArray.mk #[]), (ByteArray.mk #[112, 117, 115, 104]), (ByteArray.mk #[105, 110, 112, 117, 116]), (ByteArray.mk #[108, 111, 97, 100]), (ByteArray.mk #[115, 116, 111, 114, 101]), (ByteArray.mk #[97, 100, 100]), (ByteArray.mk #[115, 117, 98]), (ByteArray.mk #[109, 117, 108]), (ByteArray.mk #[108, 101, 115, 115]), (ByteArray.mk #[109, 105, 110]), (ByteArray.mk #[109, 97, 120]), (ByteArray.mk #[112, 105, 99, 107]), (ByteArray.mk #[110, 101, 103])] : List ByteArray).getD (0 + (Int.toNat ((x3.getD (Int.toNat x2) []).getD 0 0))) .empty)) ++ ((ByteArray.mk #[32]) ++ (digB (IntKind.i64.wrap ((x3.getD (Int.toNat x2) []).getD 1 0))))).size + 1 ≤ strMax))
            (u8l0 x0 x1 x2 x3 x4 (ih (((x0 ++ (([(ByteArray.mk #[]), (ByteArray.mk #[112, 117, 115, 104]), (ByteArray.mk #[105, 110, 112, 117, 116]), (ByteArray.mk #[108, 111, 97, 100]), (ByteArray.mk #[115, 116, 111, 114, 101]), (ByteArray.mk #[97, 100, 100]), (ByteArray.mk #[115, 117, 98]), (ByteArray.mk #[109, 117, 108]), (ByteArray.mk #[108, 101, 115, 115]), (ByteArray.mk #[109, 105, 110]), (ByteArray.mk #[109, 97, 120]), (ByteArray.mk #[112, 105, 99, 107]), (ByteArray.mk #[110, 101, 103])] : List ByteArray).getD (0 + (Int.toNat ((x3.getD (Int.toNat x2) []).getD 0 0))) .empty)) ++ ((ByteArray.mk #[32]) ++ (digB (IntKind.i64.wrap ((x3.getD (Int.toNat x2) []).getD 1 0))))) ++ (ByteArray.mk #[10])) x1 (IntKind.i64.wrap (x2 + 1)) x3 x4))
            none)
           none)
          none)
         none)
        (cond ((((x3.getD (Int.toNat x2) []).getD 0 0) : Int) == 3)
         (cond ((((x3.getD (Int.toNat x2) []).getD 0 0) : Int) == 3)
          (cond ((decide ((0 : Int) ≤ ((x3.getD (Int.toNat x2) []).getD 1 0))) && (Nat.blt (Int.toNat ((x3.getD (Int.toNat x2) []).getD 1 0)) x4.length))
           (cond (Nat.blt (Int.toNat ((x3.getD (Int.toNat x2) []).getD 1 0)) x4.length)
            (cond (decide (1 + (x4.getD (Int.toNat ((x3.getD (Int.toNat x2) []).getD 1 0)) .empty).size ≤ strMax))
             (cond (decide ((x0 ++ (([(ByteArray.mk #[]), (ByteArray.mk #[112, 117, 115, 104]), (ByteArray.mk #[105, 110, 112, 117, 116]), (ByteArray.mk #[108, 111, 97, 100]), (ByteArray.mk #[115, 116, 111, 114, 101]), (ByteArray.mk #[97, 100, 100]), (ByteArray.mk #[115, 117, 98]), (ByteArray.mk #[109, 117, 108]), (ByteArray.mk #[108, 101, 115, 115]), (ByteArray.mk #[109, 105, 110]), (ByteArray.mk #[109, 97, 120]), (ByteArray.mk #[112, 105, 99, 107]), (ByteArray.mk #[110, 101, 103])] : List ByteArray).getD (0 + (Int.toNat ((x3.getD (Int.toNat x2) []).getD 0 0))) .empty)).size + ((ByteArray.mk #[32]) ++ (x4.getD (Int.toNat ((x3.getD (Int.toNat x2) []).getD 1 0)) .empty)).size ≤ strMax))
              (cond (decide (((x0 ++ (([(ByteArray.mk #[]), (ByteArray.mk #[112, 117, 115, 104]), (ByteArray.mk #[105, 110, 112, 117, 116]), (ByteArray.mk #[108, 111, 97, 100]), (ByteArray.mk #[115, 116, 111, 114, 101]), (ByteArray.mk #[97, 100, 100]), (ByteArray.mk #[115, 117, 98]), (ByteArray.mk #[109, 117, 108]), (ByteArray.mk #[108, 101, 115, 115]), (ByteArray.mk #[109, 105, 110]), (ByteArray.mk #[109, 97, 120]), (ByteArray.mk #[112, 105, 99, 107]), (ByteArray.mk #[110, 101, 103])] : List ByteArray).getD (0 + (Int.toNat ((x3.getD (Int.toNat x2) []).getD 0 0))) .empty)) ++ ((ByteArray.mk #[32]) ++ (x4.getD (Int.toNat ((x3.getD (Int.toNat x2) []).getD 1 0)) .empty))).size + 1 ≤ strMax))
               (u8l0 x0 x1 x2 x3 x4 (ih (((x0 ++ (([(ByteArray.mk #[]), (ByteArray.mk #[112, 117, 115, 104]), (ByteArray.mk #[105, 110, 112, 117, 116]), (ByteArray.mk #[108, 111, 97, 100]), (ByteArray.mk #[115, 116, 111, 114, 101]), (ByteArray.mk #[97, 100, 100]), (ByteArray.mk #[115, 117, 98]), (ByteArray.mk #[109, 117, 108]), (ByteArray.mk #[108, 101, 115, 115]), (ByteArray.mk #[109, 105, 110]), (ByteArray.mk #[109, 97, 120]), (ByteArray.mk #[112, 105, 99, 107]), (ByteArray.mk #[110, 101, 103])] : List ByteArray).getD (0 + (Int.toNat ((x3.getD (Int.toNat x2) []).getD 0 0))) .empty)) ++ ((ByteArray.mk #[32]) ++ (x4.getD (Int.toNat ((x3.getD (Int.toNat x2) []).getD 1 0)) .empty))) ++ (ByteArray.mk #[10])) x1 (IntKind.i64.wrap (x2 + 1)) x3 x4))
               none)
              none)
             none)
            none)
           none)
          (cond (decide ((x0 ++ (([(ByteArray.mk #[]), (ByteArray.mk #[112, 117, 115, 104]), (ByteArray.mk #[105, 110, 112, 117, 116]), (ByteArray.mk #[108, 111, 97, 100]), (ByteArray.mk #[115, 116, 111, 114, 101]), (ByteArray.mk #[97, 100, 100]), (ByteArray.mk #[115, 117, 98]), (ByteArray.mk #[109, 117, 108]), (ByteArray.mk #[108, 101, 115, 115]), (ByteArray.mk #[109, 105, 110]), (ByteArray.mk #[109, 97, 120]), (ByteArray.mk #[112, 105, 99, 107]), (ByteArray.mk #[110, 101, 103])] : List ByteArray).getD (0 + (Int.toNat ((x3.getD (Int.toNat x2) []).getD 0 0))) .empty)).size + 1 ≤ strMax))
           (cond (Nat.beq ((ih ((x0 ++ (([(ByteArray.mk #[]), (ByteArray.mk #[112, 117, 115, 104]), (ByteArray.mk #[105, 110, 112, 117, 116]), (ByteArray.mk #[108, 111, 97, 100]), (ByteArray.mk #[115, 116, 111, 114, 101]), (ByteArray.mk #[97, 100, 100]), (ByteArray.mk #[115, 117, 98]), (ByteArray.mk #[109, 117, 108]), (ByteArray.mk #[108, 101, 115, 115]), (ByteArray.mk #[109, 105, 110]), (ByteArray.mk #[109, 97, 120]), (ByteArray.mk #[112, 105, 99, 107]), (ByteArray.mk #[110, 101, 103])] : List ByteArray).getD (0 + (Int.toNat ((x3.getD (Int.toNat x2) []).getD 0 0))) .empty)) ++ (ByteArray.mk #[10])) x1 (IntKind.i64.wrap (x2 + 1)) x3 x4).1) 0)
            (some (.exit 0, frameOf 58 [3] [.string ((ih ((x0 ++ (([(ByteArray.mk #[]), (ByteArray.mk #[112, 117, 115, 104]), (ByteArray.mk #[105, 110, 112, 117, 116]), (ByteArray.mk #[108, 111, 97, 100]), (ByteArray.mk #[115, 116, 111, 114, 101]), (ByteArray.mk #[97, 100, 100]), (ByteArray.mk #[115, 117, 98]), (ByteArray.mk #[109, 117, 108]), (ByteArray.mk #[108, 101, 115, 115]), (ByteArray.mk #[109, 105, 110]), (ByteArray.mk #[109, 97, 120]), (ByteArray.mk #[112, 105, 99, 107]), (ByteArray.mk #[110, 101, 103])] : List ByteArray).getD (0 + (Int.toNat ((x3.getD (Int.toNat x2) []).getD 0 0))) .empty)) ++ (ByteArray.mk #[10])) x1 (IntKind.i64.wrap (x2 + 1)) x3 x4).2)], ⟨[⟨true, (some (.cells [wsl 2, wsl 1]))⟩, ⟨true, (some (.tab [.int .i8, .int .i16, .fl .f32] x3))⟩, ⟨true, (some (.strs x4))⟩], 3, []⟩))
            none)
           none))
         (cond ((((x3.getD (Int.toNat x2) []).getD 0 0) : Int) == 4)
          (cond ((decide ((0 : Int) ≤ ((x3.getD (Int.toNat x2) []).getD 1 0))) && (Nat.blt (Int.toNat ((x3.getD (Int.toNat x2) []).getD 1 0)) x4.length))
           (cond (Nat.blt (Int.toNat ((x3.getD (Int.toNat x2) []).getD 1 0)) x4.length)
            (cond (decide (1 + (x4.getD (Int.toNat ((x3.getD (Int.toNat x2) []).getD 1 0)) .empty).size ≤ strMax))
             (cond (decide ((x0 ++ (([(ByteArray.mk #[]), (ByteArray.mk #[112, 117, 115, 104]), (ByteArray.mk #[105, 110, 112, 117, 116]), (ByteArray.mk #[108, 111, 97, 100]), (ByteArray.mk #[115, 116, 111, 114, 101]), (ByteArray.mk #[97, 100, 100]), (ByteArray.mk #[115, 117, 98]), (ByteArray.mk #[109, 117, 108]), (ByteArray.mk #[108, 101, 115, 115]), (ByteArray.mk #[109, 105, 110]), (ByteArray.mk #[109, 97, 120]), (ByteArray.mk #[112, 105, 99, 107]), (ByteArray.mk #[110, 101, 103])] : List ByteArray).getD (0 + (Int.toNat ((x3.getD (Int.toNat x2) []).getD 0 0))) .empty)).size + ((ByteArray.mk #[32]) ++ (x4.getD (Int.toNat ((x3.getD (Int.toNat x2) []).getD 1 0)) .empty)).size ≤ strMax))
              (cond (decide (((x0 ++ (([(ByteArray.mk #[]), (ByteArray.mk #[112, 117, 115, 104]), (ByteArray.mk #[105, 110, 112, 117, 116]), (ByteArray.mk #[108, 111, 97, 100]), (ByteArray.mk #[115, 116, 111, 114, 101]), (ByteArray.mk #[97, 100, 100]), (ByteArray.mk #[115, 117, 98]), (ByteArray.mk #[109, 117, 108]), (ByteArray.mk #[108, 101, 115, 115]), (ByteArray.mk #[109, 105, 110]), (ByteArray.mk #[109, 97, 120]), (ByteArray.mk #[112, 105, 99, 107]), (ByteArray.mk #[110, 101, 103])] : List ByteArray).getD (0 + (Int.toNat ((x3.getD (Int.toNat x2) []).getD 0 0))) .empty)) ++ ((ByteArray.mk #[32]) ++ (x4.getD (Int.toNat ((x3.getD (Int.toNat x2) []).getD 1 0)) .empty))).size + 1 ≤ strMax))
               (u8l0 x0 x1 x2 x3 x4 (ih (((x0 ++ (([(ByteArray.mk #[]), (ByteArray.mk #[112, 117, 115, 104]), (ByteArray.mk #[105, 110, 112, 117, 116]), (ByteArray.mk #[108, 111, 97, 100]), (ByteArray.mk #[115, 116, 111, 114, 101]), (ByteArray.mk #[97, 100, 100]), (ByteArray.mk #[115, 117, 98]), (ByteArray.mk #[109, 117, 108]), (ByteArray.mk #[108, 101, 115, 115]), (ByteArray.mk #[109, 105, 110]), (ByteArray.mk #[109, 97, 120]), (ByteArray.mk #[112, 105, 99, 107]), (ByteArray.mk #[110, 101, 103])] : List ByteArray).getD (0 + (Int.toNat ((x3.getD (Int.toNat x2) []).getD 0 0))) .empty)) ++ ((ByteArray.mk #[32]) ++ (x4.getD (Int.toNat ((x3.getD (Int.toNat x2) []).getD 1 0)) .empty))) ++ (ByteArray.mk #[10])) x1 (IntKind.i64.wrap (x2 + 1)) x3 x4))
               none)
              none)
             none)
            none)
           none)
          (cond (decide ((x0 ++ (([(ByteArray.mk #[]), (ByteArray.mk #[112, 117, 115, 104]), (ByteArray.mk #[105, 110, 112, 117, 116]), (ByteArray.mk #[108, 111, 97, 100]), (ByteArray.mk #[115, 116, 111, 114, 101]), (ByteArray.mk #[97, 100, 100]), (ByteArray.mk #[115, 117, 98]), (ByteArray.mk #[109, 117, 108]), (ByteArray.mk #[108, 101, 115, 115]), (ByteArray.mk #[109, 105, 110]), (ByteArray.mk #[109, 97, 120]), (ByteArray.mk #[112, 105, 99, 107]), (ByteArray.mk #[110, 101, 103])] : List ByteArray).getD (0 + (Int.toNat ((x3.getD (Int.toNat x2) []).getD 0 0))) .empty)).size + 1 ≤ strMax))
           (u8l0 x0 x1 x2 x3 x4 (ih ((x0 ++ (([(ByteArray.mk #[]), (ByteArray.mk #[112, 117, 115, 104]), (ByteArray.mk #[105, 110, 112, 117, 116]), (ByteArray.mk #[108, 111, 97, 100]), (ByteArray.mk #[115, 116, 111, 114, 101]), (ByteArray.mk #[97, 100, 100]), (ByteArray.mk #[115, 117, 98]), (ByteArray.mk #[109, 117, 108]), (ByteArray.mk #[108, 101, 115, 115]), (ByteArray.mk #[109, 105, 110]), (ByteArray.mk #[109, 97, 120]), (ByteArray.mk #[112, 105, 99, 107]), (ByteArray.mk #[110, 101, 103])] : List ByteArray).getD (0 + (Int.toNat ((x3.getD (Int.toNat x2) []).getD 0 0))) .empty)) ++ (ByteArray.mk #[10])) x1 (IntKind.i64.wrap (x2 + 1)) x3 x4))
           none)))))
      none)
     none)
    none)
   none)
  none)
 (a8l0 x0 x1 x2 x3 x4 (0, x0)))
set_option maxRecDepth 100000 in
set_option maxHeartbeats 4000000 in
theorem e8l0 (m : Nat) (x0 : ByteArray) (x1 x2 : Int) (x3 : List (List Int)) (x4 : List ByteArray) : evC Tryd.prog ext T37 noL 200 (loopN Tryd.f8 0) (loopTail ([1, 3, 10, 11, 12], []) [3] [] (sumK 58 [1, 3, 10, 11, 12] [3] (q8l0 m))) (frameOf 58 [1, 3, 10, 11, 12] [vp 0, .string x0, wsl 1, vi x1, vi x2]) ⟨[⟨true, (some (.cells [wsl 2, wsl 1]))⟩, ⟨true, (some (.tab [.int .i8, .int .i16, .fl .f32] x3))⟩, ⟨true, (some (.strs x4))⟩], 3, []⟩ = firstT ([((Nat.beq ((r8l0 (m + 1) x0 x1 x2 x3 x4).1) 0), .exit 0, [.string ((r8l0 (m + 1) x0 x1 x2 x3 x4).2)], ⟨[⟨true, (some (.cells [wsl 2, wsl 1]))⟩, ⟨true, (some (.tab [.int .i8, .int .i16, .fl .f32] x3))⟩, ⟨true, (some (.strs x4))⟩], 3, []⟩)].map fun (b, x) => (b, (x.1, frameOf 58 [3] x.2.1, x.2.2))) :=
 (show evC Tryd.prog ext T37 noL 200 (loopN Tryd.f8 0) (loopTail ([1, 3, 10, 11, 12], []) [3] [] (sumK 58 [1, 3, 10, 11, 12] [3] (q8l0 m))) (frameOf 58 [1, 3, 10, 11, 12] [vp 0, .string x0, wsl 1, vi x1, vi x2]) ⟨[⟨true, (some (.cells [wsl 2, wsl 1]))⟩, ⟨true, (some (.tab [.int .i8, .int .i16, .fl .f32] x3))⟩, ⟨true, (some (.strs x4))⟩], 3, []⟩ = w8l0 (r8l0 m) x0 x1 x2 x3 x4 from by kernel_rfl).trans
 (show w8l0 (r8l0 m) x0 x1 x2 x3 x4 = a8l0 x0 x1 x2 x3 x4 (r8l0 (m + 1) x0 x1 x2 x3 x4) from by unfold w8l0; show _ = a8l0 x0 x1 x2 x3 x4 (b8l0 (r8l0 m) x0 x1 x2 x3 x4); unfold b8l0; exact (cond_both (a8l0 x0 x1 x2 x3 x4) _ (fun h0 => (cond_both (a8l0 x0 x1 x2 x3 x4) _ (fun h1 => (cond_t (ev_and2 h1) (cond_both (a8l0 x0 x1 x2 x3 x4) _ (fun h2 => (cond_both (a8l0 x0 x1 x2 x3 x4) _ (fun h3 => (cond_both (a8l0 x0 x1 x2 x3 x4) _ (fun h4 => (cond_both (a8l0 x0 x1 x2 x3 x4) _ (fun h5 => (cond_app (a8l0 x0 x1 x2 x3 x4) _ (cond_app (a8l0 x0 x1 x2 x3 x4) _ (cond_app (a8l0 x0 x1 x2 x3 x4) _ (cond_app (a8l0 x0 x1 x2 x3 x4) _ (v8l0 x0 x1 x2 x3 x4 ((r8l0 m) (((x0 ++ (([(ByteArray.mk #[]), (ByteArray.mk #[112, 117, 115, 104]), (ByteArray.mk #[105, 110, 112, 117, 116]), (ByteArray.mk #[108, 111, 97, 100]), (ByteArray.mk #[115, 116, 111, 114, 101]), (ByteArray.mk #[97, 100, 100]), (ByteArray.mk #[115, 117, 98]), (ByteArray.mk #[109, 117, 108]), (ByteArray.mk #[108, 101, 115, 115]), (ByteArray.mk #[109, 105, 110]), (ByteArray.mk #[109, 97, 120]), (ByteArray.mk #[112, 105, 99, 107]), (ByteArray.mk #[110, 101, 103])] : List ByteArray).getD (0 + (Int.toNat ((x3.getD (Int.toNat x2) []).getD 0 0))) .empty)) ++ ((ByteArray.mk #[32]) ++ ((r25 (Int.toNat ((x3.getD (Int.toNat x2) []).getD 2 0))).2))) ++ (ByteArray.mk #[10])) x1 (IntKind.i64.wrap (x2 + 1)) x3 x4)) rfl) rfl) rfl) rfl)) (fun h5 => (cond_both (a8l0 x0 x1 x2 x3 x4) _ (fun h6 => (cond_app (a8l0 x0 x1 x2 x3 x4) _ (cond_app (a8l0 x0 x1 x2 x3 x4) _ (cond_app (a8l0 x0 x1 x2 x3 x4) _ (cond_app (a8l0 x0 x1 x2 x3 x4) _ (v8l0 x0 x1 x2 x3 x4 ((r8l0 m) (((x0 ++ (([(ByteArray.mk #[]), (ByteArray.mk #[112, 117, 115, 104]), (ByteArray.mk #[105, 110, 112, 117, 116]), (ByteArray.mk #[108, 111, 97, 100]), (ByteArray.mk #[115, 116, 111, 114, 101]), (ByteArray.mk #[97, 100, 100]), (ByteArray.mk #[115, 117, 98]), (ByteArray.mk #[109, 117, 108]), (ByteArray.mk #[108, 101, 115, 115]), (ByteArray.mk #[109, 105, 110]), (ByteArray.mk #[109, 97, 120]), (ByteArray.mk #[112, 105, 99, 107]), (ByteArray.mk #[110, 101, 103])] : List ByteArray).getD (0 + (Int.toNat ((x3.getD (Int.toNat x2) []).getD 0 0))) .empty)) ++ ((ByteArray.mk #[32]) ++ (digB (IntKind.i64.wrap ((x3.getD (Int.toNat x2) []).getD 1 0))))) ++ (ByteArray.mk #[10])) x1 (IntKind.i64.wrap (x2 + 1)) x3 x4)) rfl) rfl) rfl) rfl)) (fun h6 => (cond_both (a8l0 x0 x1 x2 x3 x4) _ (fun h7 => (cond_t h7 (cond_both (a8l0 x0 x1 x2 x3 x4) _ (fun h8 => (cond_t (ev_and2 h8) (cond_app (a8l0 x0 x1 x2 x3 x4) _ (cond_app (a8l0 x0 x1 x2 x3 x4) _ (cond_app (a8l0 x0 x1 x2 x3 x4) _ (v8l0 x0 x1 x2 x3 x4 ((r8l0 m) (((x0 ++ (([(ByteArray.mk #[]), (ByteArray.mk #[112, 117, 115, 104]), (ByteArray.mk #[105, 110, 112, 117, 116]), (ByteArray.mk #[108, 111, 97, 100]), (ByteArray.mk #[115, 116, 111, 114, 101]), (ByteArray.mk #[97, 100, 100]), (ByteArray.mk #[115, 117, 98]), (ByteArray.mk #[109, 117, 108]), (ByteArray.mk #[108, 101, 115, 115]), (ByteArray.mk #[109, 105, 110]), (ByteArray.mk #[109, 97, 120]), (ByteArray.mk #[112, 105, 99, 107]), (ByteArray.mk #[110, 101, 103])] : List ByteArray).getD (0 + (Int.toNat ((x3.getD (Int.toNat x2) []).getD 0 0))) .empty)) ++ ((ByteArray.mk #[32]) ++ (x4.getD (Int.toNat ((x3.getD (Int.toNat x2) []).getD 1 0)) .empty))) ++ (ByteArray.mk #[10])) x1 (IntKind.i64.wrap (x2 + 1)) x3 x4)) rfl) rfl) rfl))) (fun h8 => rfl)))) (fun h7 => (cond_both (a8l0 x0 x1 x2 x3 x4) _ (fun h8 => (cond_both (a8l0 x0 x1 x2 x3 x4) _ (fun h9 => (cond_t (ev_and2 h9) (cond_app (a8l0 x0 x1 x2 x3 x4) _ (cond_app (a8l0 x0 x1 x2 x3 x4) _ (cond_app (a8l0 x0 x1 x2 x3 x4) _ (v8l0 x0 x1 x2 x3 x4 ((r8l0 m) (((x0 ++ (([(ByteArray.mk #[]), (ByteArray.mk #[112, 117, 115, 104]), (ByteArray.mk #[105, 110, 112, 117, 116]), (ByteArray.mk #[108, 111, 97, 100]), (ByteArray.mk #[115, 116, 111, 114, 101]), (ByteArray.mk #[97, 100, 100]), (ByteArray.mk #[115, 117, 98]), (ByteArray.mk #[109, 117, 108]), (ByteArray.mk #[108, 101, 115, 115]), (ByteArray.mk #[109, 105, 110]), (ByteArray.mk #[109, 97, 120]), (ByteArray.mk #[112, 105, 99, 107]), (ByteArray.mk #[110, 101, 103])] : List ByteArray).getD (0 + (Int.toNat ((x3.getD (Int.toNat x2) []).getD 0 0))) .empty)) ++ ((ByteArray.mk #[32]) ++ (x4.getD (Int.toNat ((x3.getD (Int.toNat x2) []).getD 1 0)) .empty))) ++ (ByteArray.mk #[10])) x1 (IntKind.i64.wrap (x2 + 1)) x3 x4)) rfl) rfl) rfl))) (fun h9 => rfl))) (fun h8 => (cond_app (a8l0 x0 x1 x2 x3 x4) _ (v8l0 x0 x1 x2 x3 x4 ((r8l0 m) ((x0 ++ (([(ByteArray.mk #[]), (ByteArray.mk #[112, 117, 115, 104]), (ByteArray.mk #[105, 110, 112, 117, 116]), (ByteArray.mk #[108, 111, 97, 100]), (ByteArray.mk #[115, 116, 111, 114, 101]), (ByteArray.mk #[97, 100, 100]), (ByteArray.mk #[115, 117, 98]), (ByteArray.mk #[109, 117, 108]), (ByteArray.mk #[108, 101, 115, 115]), (ByteArray.mk #[109, 105, 110]), (ByteArray.mk #[109, 97, 120]), (ByteArray.mk #[112, 105, 99, 107]), (ByteArray.mk #[110, 101, 103])] : List ByteArray).getD (0 + (Int.toNat ((x3.getD (Int.toNat x2) []).getD 0 0))) .empty)) ++ (ByteArray.mk #[10])) x1 (IntKind.i64.wrap (x2 + 1)) x3 x4)) rfl)))))))))) (fun h4 => rfl))) (fun h3 => rfl))) (fun h2 => rfl)))) (fun h1 => rfl))) (fun h0 => rfl)))
set_option maxRecDepth 100000 in
set_option maxHeartbeats 4000000 in
theorem qm8l0 : ∀ m, SumKOk Tryd.prog (loopN Tryd.f8 0) 58 [1, 3, 10, 11, 12] [3] (q8l0 m) := by
  intro m
  induction m with
  | zero =>
    intro vals s x h1 h2 h3
    unfold q8l0 at h3; split at h3
    · rename_i h; split at h3
      · rename_i hc; obtain ⟨rfl, rfl, rfl, rfl, rfl, rfl⟩ := hc; exact absurd h3 (by simp [r8l0, firstT, Nat.beq])
      · exact noQ_ok _ _ _ h1 h2 h3
    · exact noQ_ok _ _ _ h1 h2 h3
  | succ m ih =>
    intro vals s x h1 h2 h3
    unfold q8l0 at h3; split at h3
    · rename_i h; split at h3
      · rename_i hc; obtain ⟨rfl, rfl, rfl, rfl, rfl, rfl⟩ := hc; exact sum_step ok37 extOk mixed ((lfOkF_no _ _).inner (by kernel_rfl)) ih h1 h2 h (e8l0 m _ _ _ _ _) rfl h3
      · exact noQ_ok _ _ _ h1 h2 h3
    · exact noQ_ok _ _ _ h1 h2 h3
noncomputable def Q8l0 : SumK := fun vals s => q8l0 (fuelOf vals s.h) vals s
theorem qok8l0 : SumKOk Tryd.prog (loopN Tryd.f8 0) 58 [1, 3, 10, 11, 12] [3] Q8l0 := fuel_ok qm8l0 fuelOf
noncomputable def L8_1 : LoopT := addL noL 6 ([1, 3, 10, 11, 12], []) (sumK 58 [1, 3, 10, 11, 12] [3] Q8l0)
theorem lok8_1 : LfOkF Tryd.prog L8_1 Tryd.f8 := lfOkF_add (lfOkF_no _ _) qok8l0 (by kernel_rfl) (by kernel_rfl) (by kernel_rfl)

/-- impl.ProgramText -/
noncomputable def w8 {α : Type} (x0 : List ByteArray) (x1 : List (List Int)) (k : (Nat × ByteArray) → α) : α :=
 let c208 := (r8l0 (1000 + x0.length + x1.length + 0) (ByteArray.mk #[]) ((x1.length : Nat) : Int) 0 x1 x0)
 cond (Nat.beq ((r23 x0 x1).1) 0)
  (cond (!((r23 x0 x1).2))
   (k (0, (ByteArray.mk #[])))
   (cond (Nat.beq (c208.1) 0)
    (k (0, (c208.2)))
    (k (1, ByteArray.empty))))
  (k (1, ByteArray.empty))
noncomputable def r8 (x0 : List ByteArray) (x1 : List (List Int)) : Nat × ByteArray := w8 x0 x1 (fun p => p)
noncomputable def g8 (x0 : List ByteArray) (x1 : List (List Int)) (p : Nat × ByteArray) : List (Bool × Value × St) := [((Nat.beq (p.1) 0), .string (p.2), ⟨[⟨true, (some (.strs x0))⟩, ⟨true, (some (.tab [.int .i8, .int .i16, .fl .f32] x1))⟩], 2, []⟩)]
theorem p8 {α : Type} (x0 : List ByteArray) (x1 : List (List Int)) (f : (Nat × ByteArray) → α) : w8 x0 x1 f = f (w8 x0 x1 (fun p => p)) := by unfold w8; exact (cond_app f _ (cond_app f _ rfl (cond_app f _ rfl rfl)) rfl)
set_option maxRecDepth 100000 in
set_option maxHeartbeats 4000000 in
theorem e8 (x0 : List ByteArray) (x1 : List (List Int)) : evFn Tryd.prog ext T37 L8_1 200 Tryd.f8 [.agg #[wsl 0, wsl 1]] ⟨[⟨true, (some (.strs x0))⟩, ⟨true, (some (.tab [.int .i8, .int .i16, .fl .f32] x1))⟩], 2, []⟩ = firstT (g8 x0 x1 (r8 x0 x1)) :=
 Eq.trans (by kernel_rfl) (p8 x0 x1 (fun p => firstT (g8 x0 x1 p)))
noncomputable def s8 (args : List Value) (s : St) : List (Bool × Value × St) :=
 match args, s.h with
 | [.agg ⟨[.iface f0 .nilIface, .iface f1 .nilIface]⟩], [⟨true, some (.strs x0)⟩, ⟨true, some (.tab [.int .i8, .int .i16, .fl .f32] x1)⟩] => if f0 = 0 ∧ f1 = 1 then (g8 x0 x1 (r8 x0 x1)) else T37 8 args s
 | _, _ => T37 8 args s
noncomputable def T38 : CallF := addF T37 8 s8
set_option maxRecDepth 100000 in
set_option maxHeartbeats 4000000 in
theorem ok38 : CfOk Tryd.prog T38 := by
  refine cfOk_add ok37 fun args s r s' h1 h2 h3 => ?_
  unfold s8 at h3; split at h3
  · rename_i h; split at h3
    · rename_i hc; obtain ⟨rfl, rfl⟩ := hc; exact callOk ok37 Tryd.func8 h1 h2 h lok8_1.body (e8 _ _) rfl h3
    · exact ok37 _ _ _ _ _ h1 h2 h3
  · exact ok37 _ _ _ _ _ h1 h2 h3

/-- laws.eqStringS, loop 0: one round -/
noncomputable def b27l0 (ih : Int → List ByteArray → List ByteArray → Nat) (x0 : Int) (x1 x2 : List ByteArray) : Nat :=
 cond (decide ((x0 : Int) < ((x1.length : Nat) : Int)))
  (cond ((decide ((0 : Int) ≤ x0)) && (Nat.blt (Int.toNat x0) x1.length))
   (cond ((decide ((0 : Int) ≤ x0)) && (Nat.blt (Int.toNat x0) x2.length))
    (cond (!((x1.getD (Int.toNat x0) .empty).toList == (x2.getD (Int.toNat x0) .empty).toList))
     (0)
     (ih (IntKind.i64.wrap (x0 + 1)) x1 x2))
    (2))
   (2))
  (1)
noncomputable def r27l0 : Nat → Int → List ByteArray → List ByteArray → Nat
 | 0 => fun _ _ _ => (2)
 | m + 1 => b27l0 (r27l0 m)
noncomputable def a27l0 (x0 : Int) (x1 x2 : List ByteArray) (p : Nat) : Option (Fin' × List Value × St) := firstT ([((Nat.beq p 0), .ret, [.bool false], ⟨[⟨true, (some (.strs x1))⟩, ⟨true, (some (.strs x2))⟩], 2, []⟩), ((Nat.beq p 1), .exit 0, [anyV], ⟨[⟨true, (some (.strs x1))⟩, ⟨true, (some (.strs x2))⟩], 2, []⟩)].map fun (b, x) => (b, (x.1, frameOf 26 [4] x.2.1, x.2.2)))
noncomputable def u27l0 (x0 : Int) (x1 x2 : List ByteArray) (p : Nat) : Option (Fin' × List Value × St) := alts ([((Nat.beq p 0), .ret, [.bool false], ⟨[⟨true, (some (.strs x1))⟩, ⟨true, (some (.strs x2))⟩], 2, []⟩), ((Nat.beq p 1), .exit 0, [anyV], ⟨[⟨true, (some (.strs x1))⟩, ⟨true, (some (.strs x2))⟩], 2, []⟩)].map fun (b, x) => (b, (x.1, frameOf 26 [4] x.2.1, x.2.2))) some
theorem v27l0 (x0 : Int) (x1 x2 : List ByteArray) (p : Nat) : u27l0 x0 x1 x2 p = a27l0 x0 x1 x2 p := alts_first _
noncomputable def q27l0 (m : Nat) : SumK := fun vals s =>
 match vals, s.h with
 | [.iface f0 .nilIface, .iface f1 .nilIface, .int .i64 x0], [⟨true, some (.strs x1)⟩, ⟨true, some (.strs x2)⟩] => if f0 = 0 ∧ f1 = 1 then [((Nat.beq (r27l0 m x0 x1 x2) 0), .ret, [.bool false], ⟨[⟨true, (some (.strs x1))⟩, ⟨true, (some (.strs x2))⟩], 2, []⟩), ((Nat.beq (r27l0 m x0 x1 x2) 1), .exit 0, [anyV], ⟨[⟨true, (some (.strs x1))⟩, ⟨true, (some (.strs x2))⟩], 2, []⟩)] else noQ vals s
 | _, _ => noQ vals s
noncomputable def w27l0 (ih : Int → List ByteArray → List ByteArray → Nat) (x0 : Int) (x1 x2 : List ByteArray) : Option (Fin' × List Value × St) :=
 (cond (decide ((x0 : Int) < ((x1.length : Nat) : Int)))
 (cond ((decide ((0 : Int) ≤ x0)) && (Nat.blt (Int.toNat x0) x1.length))
  (cond (Nat.blt (Int.toNat x0) x1.length)
   (cond ((decide ((0 : Int) ≤ x0)) && (Nat.blt (Int.toNat x0) x2.length))
    (cond (Nat.blt (Int.toNat x0) x2.length)
     (cond (!((x1.getD (Int.toNat x0) .empty).toList == (x2.getD (Int.toNat x0) .empty).toList))
      (a27l0 x0 x1 x2 (0))
      (u27l0 x0 x1 x2 (ih (IntKind.i64.wrap (x0 + 1)) x1 x2)))
     none)
    none)
   none)
  none)
 (a27l0 x0 x1 x2 (1)))
set_option maxRecDepth 100000 in
set_option maxHeartbeats 4000000 in
theorem e27l0 (m : Nat) (x0 : Int) (x1 x2 : List ByteArray) : evC Tryd.prog ext T38 noL 200 (loopN Tryd.f27 0) (loopTail ([0, 1, 5], []) [4] [] (sumK 26 [0, 1, 5] [4] (q27l0 m))) (frameOf 26 [0, 1, 5] [wsl 0, wsl 1, vi x0]) ⟨[⟨true, (some (.strs x1))⟩, ⟨true, (some (.strs x2))⟩], 2, []⟩ = firstT ([((Nat.beq (r27l0 (m + 1) x0 x1 x2) 0), .ret, [.bool false], ⟨[⟨true, (some (.strs x1))⟩, ⟨true, (some (.strs x2))⟩], 2, []⟩), ((Nat.beq (r27l0 (m + 1) x0 x1 x2) 1), .exit 0, [anyV], ⟨[⟨true, (some (.strs x1))⟩, ⟨true, (some (.strs x2))⟩], 2, []⟩)].map fun (b, x) => (b, (x.1, frameOf 26 [4] x.2.1, x.2.2))) :=
 (show evC Tryd.prog ext T38 noL 200 (loopN Tryd.f27 0) (loopTail ([0, 1, 5], []) [4] [] (sumK 26 [0, 1, 5] [4] (q27l0 m))) (frameOf 26 [0, 1, 5] [wsl 0, wsl 1, vi x0]) ⟨[⟨true, (some (.strs x1))⟩, ⟨true, (some (.strs x2))⟩], 2, []⟩ = w27l0 (r27l0 m) x0 x1 x2 from by kernel_rfl).trans
 (show w27l0 (r27l0 m) x0 x1 x2 = a27l0 x0 x1 x2 (r27l0 (m + 1) x0 x1 x2) from by unfold w27l0; show _ = a27l0 x0 x1 x2 (b27l0 (r27l0 m) x0 x1 x2); unfold b27l0; exact (cond_both (a27l0 x0 x1 x2) _ (fun h0 => (cond_both (a27l0 x0 x1 x2) _ (fun h1 => (cond_t (ev_and2 h1) (cond_both (a27l0 x0 x1 x2) _ (fun h2 => (cond_t (ev_and2 h2) (cond_app (a27l0 x0 x1 x2) _ rfl (v27l0 x0 x1 x2 ((r27l0 m) (IntKind.i64.wrap (x0 + 1)) x1 x2))))) (fun h2 => rfl)))) (fun h1 => rfl))) (fun h0 => rfl)))
set_option maxRecDepth 100000 in
set_option maxHeartbeats 4000000 in
theorem qm27l0 : ∀ m, SumKOk Tryd.prog (loopN Tryd.f27 0) 26 [0, 1, 5] [4] (q27l0 m) := by
  intro m
  induction m with
  | zero =>
    intro vals s x h1 h2 h3
    unfold q27l0 at h3; split at h3
    · rename_i h; split at h3
      · rename_i hc; obtain ⟨rfl, rfl⟩ := hc; exact absurd h3 (by simp [r27l0, firstT, Nat.beq])
      · exact noQ_ok _ _ _ h1 h2 h3
    · exact noQ_ok _ _ _ h1 h2 h3
  | succ m ih =>
    intro vals s x h1 h2 h3
    unfold q27l0 at h3; split at h3
    · rename_i h; split at h3
      · rename_i hc; obtain ⟨rfl, rfl⟩ := hc; exact sum_step ok38 extOk mixed ((lfOkF_no _ _).inner (by kernel_rfl)) ih h1 h2 h (e27l0 m _ _ _) rfl h3
      · exact noQ_ok _ _ _ h1 h2 h3
    · exact noQ_ok _ _ _ h1 h2 h3
noncomputable def Q27l0 : SumK := fun vals s => q27l0 (fuelOf vals s.h) vals s
theorem qok27l0 : SumKOk Tryd.prog (loopN Tryd.f27 0) 26 [0, 1, 5] [4] Q27l0 := fuel_ok qm27l0 fuelOf
noncomputable def L27_1 : LoopT := addL noL 5 ([0, 1, 5], []) (sumK 26 [0, 1, 5] [4] Q27l0)
theorem lok27_1 : LfOkF Tryd.prog L27_1 Tryd.f27 := lfOkF_add (lfOkF_no _ _) qok27l0 (by kernel_rfl) (by kernel_rfl) (by kernel_rfl)

/-- laws.eqStringS -/
noncomputable def w27 {α : Type} (x0 x1 : List ByteArray) (k : (Nat × Bool) → α) : α :=
 let c209 := (r27l0 (1000 + x1.length + x0.length) 0 x0 x1)
 cond ((((x0.length : Nat) : Int) : Int) != ((x1.length : Nat) : Int))
  (k (0, false))
  (cond (Nat.beq c209 0)
   (k (0, false))
   (cond (Nat.beq c209 1)
    (k (0, true))
    (k (1, false))))
noncomputable def r27 (x0 x1 : List ByteArray) : Nat × Bool := w27 x0 x1 (fun p => p)
noncomputable def g27 (x0 x1 : List ByteArray) (p : Nat × Bool) : List (Bool × Value × St) := [((Nat.beq (p.1) 0), .bool (p.2), ⟨[⟨true, (some (.strs x0))⟩, ⟨true, (some (.strs x1))⟩], 2, []⟩)]
theorem p27 {α : Type} (x0 x1 : List ByteArray) (f : (Nat × Bool) → α) : w27 x0 x1 f = f (w27 x0 x1 (fun p => p)) := by unfold w27; exact (cond_app f _ rfl (cond_app f _ rfl (cond_app f _ rfl rfl)))
set_option maxRecDepth 100000 in
set_option maxHeartbeats 4000000 in
theorem e27 (x0 x1 : List ByteArray) : evFn Tryd.prog ext T38 L27_1 200 Tryd.f27 [wsl 0, wsl 1] ⟨[⟨true, (some (.strs x0))⟩, ⟨true, (some (.strs x1))⟩], 2, []⟩ = firstT (g27 x0 x1 (r27 x0 x1)) :=
 Eq.trans (by kernel_rfl) (p27 x0 x1 (fun p => firstT (g27 x0 x1 p)))
noncomputable def s27 (args : List Value) (s : St) : List (Bool × Value × St) :=
 match args, s.h with
 | [.iface f0 .nilIface, .iface f1 .nilIface], [⟨true, some (.strs x0)⟩, ⟨true, some (.strs x1)⟩] => if f0 = 0 ∧ f1 = 1 then (g27 x0 x1 (r27 x0 x1)) else T38 27 args s
 | _, _ => T38 27 args s
noncomputable def T39 : CallF := addF T38 27 s27
set_option maxRecDepth 100000 in
set_option maxHeartbeats 4000000 in
theorem ok39 : CfOk Tryd.prog T39 := by
  refine cfOk_add ok38 fun args s r s' h1 h2 h3 => ?_
  unfold s27 at h3; split at h3
  · rename_i h; split at h3
    · rename_i hc; obtain ⟨rfl, rfl⟩ := hc; exact callOk ok38 Tryd.func27 h1 h2 h lok27_1.body (e27 _ _) rfl h3
    · exact ok38 _ _ _ _ _ h1 h2 h3
  · exact ok38 _ _ _ _ _ h1 h2 h3

/-- laws.sameFloat -/
noncomputable def r74 (x0 x1 : Nat) : Bool :=
 cond (!feq .f64 x0 x0)
  ((!feq .f64 x1 x1))
  (cond (!feq .f64 x1 x1)
   (false)
   (cond (feq .f64 x0 0)
    (cond (feq .f64 x1 0)
     (((fgt .f64 (fdiv .f64 4607182418800017408 x0) 0) == (fgt .f64 (fdiv .f64 4607182418800017408 x1) 0)))
     ((feq .f64 x0 x1)))
    ((feq .f64 x0 x1))))
noncomputable def a74 (x0 x1 : Nat) (p : Bool) : Res := firstT [(true, .bool p, st0)]
noncomputable def w74 (x0 x1 : Nat) : Res :=
 (cond (!feq .f64 x0 x0)
 (cond (!feq .f64 x0 x0)
  (a74 x0 x1 ((!feq .f64 x1 x1)))
  (some (.bool false, st0)))
 (cond (!feq .f64 x1 x1)
  (cond (!feq .f64 x0 x0)
   (some (.bool (!feq .f64 x1 x1), st0))
   (a74 x0 x1 (false)))
  (cond (feq .f64 x0 0)
   (cond (feq .f64 x1 0)
    (a74 x0 x1 (((fgt .f64 (fdiv .f64 4607182418800017408 x0) 0) == (fgt .f64 (fdiv .f64 4607182418800017408 x1) 0))))
    (a74 x0 x1 ((feq .f64 x0 x1))))
   (a74 x0 x1 ((feq .f64 x0 x1))))))
set_option maxRecDepth 100000 in
set_option maxHeartbeats 4000000 in
theorem e74 (x0 x1 : Nat) : evFn Tryd.prog ext T39 noL 200 Tryd.f74 [.float .f64 x0, .float .f64 x1] st0 = firstT [(true, .bool (r74 x0 x1), st0)] :=
 (show evFn Tryd.prog ext T39 noL 200 Tryd.f74 [.float .f64 x0, .float .f64 x1] st0 = w74 x0 x1 from by kernel_rfl).trans
 (show w74 x0 x1 = a74 x0 x1 (r74 x0 x1) from by unfold w74 r74; exact (cond_both (a74 x0 x1) _ (fun h0 => (cond_t (ev_not1 (ev_nott h0)) rfl)) (fun h0 => (cond_both (a74 x0 x1) _ (fun h1 => (cond_f (ev_not0 (ev_notf h0)) rfl)) (fun h1 => (cond_app (a74 x0 x1) _ (cond_app (a74 x0 x1) _ rfl rfl) rfl))))))
noncomputable def s74 (args : List Value) (s : St) : List (Bool × Value × St) :=
 match args, s.h with
 | [.float .f64 x0, .float .f64 x1], [] => [(true, .bool (r74 x0 x1), st0)]
 | _, _ => T39 74 args s
noncomputable def T40 : CallF := addF T39 74 s74
set_option maxRecDepth 100000 in
set_option maxHeartbeats 4000000 in
theorem ok40 : CfOk Tryd.prog T40 := by
  refine cfOk_add ok39 fun args s r s' h1 h2 h3 => ?_
  unfold s74 at h3; split at h3
  · rename_i h; exact callOk ok39 Tryd.func74 h1 h2 h (lfOkF_no _ _).body (e74 _ _) rfl h3
  · exact ok39 _ _ _ _ _ h1 h2 h3

/-- laws.eqOp -/
noncomputable def w57 {α : Type} (x0 x1 : Int) (x2 : Nat) (x3 x4 : Int) (x5 : Nat) (k : Bool → α) : α :=
 cond ((x0 : Int) != x3)
  (k (false))
  (cond ((x1 : Int) != x4)
   (k (false))
   (cond (!(r74 (widen x2) (widen x5)))
    (k (false))
    (k (true))))
noncomputable def r57 (x0 x1 : Int) (x2 : Nat) (x3 x4 : Int) (x5 : Nat) : Bool := w57 x0 x1 x2 x3 x4 x5 (fun p => p)
noncomputable def g57 (x0 x1 : Int) (x2 : Nat) (x3 x4 : Int) (x5 : Nat) (p : Bool) : List (Bool × Value × St) := [(true, .bool p, st0)]
theorem p57 {α : Type} (x0 x1 : Int) (x2 : Nat) (x3 x4 : Int) (x5 : Nat) (f : Bool → α) : w57 x0 x1 x2 x3 x4 x5 f = f (w57 x0 x1 x2 x3 x4 x5 (fun p => p)) := by unfold w57; exact (cond_app f _ rfl (cond_app f _ rfl (cond_app f _ rfl rfl)))
set_option maxRecDepth 100000 in
set_option maxHeartbeats 4000000 in
theorem e57 (x0 x1 : Int) (x2 : Nat) (x3 x4 : Int) (x5 : Nat) : evFn Tryd.prog ext T40 noL 200 Tryd.f57 [.agg #[.int .i8 x0, .int .i16 x1, vf x2], .agg #[.int .i8 x3, .int .i16 x4, vf x5]] st0 = firstT (g57 x0 x1 x2 x3 x4 x5 (r57 x0 x1 x2 x3 x4 x5)) :=
 Eq.trans (by kernel_rfl) (p57 x0 x1 x2 x3 x4 x5 (fun p => firstT (g57 x0 x1 x2 x3 x4 x5 p)))
noncomputable def s57 (args : List Value) (s : St) : List (Bool × Value × St) :=
 match args, s.h with
 | [.agg ⟨[.int .i8 x0, .int .i16 x1, .float .f32 x2]⟩, .agg ⟨[.int .i8 x3, .int .i16 x4, .float .f32 x5]⟩], [] => (g57 x0 x1 x2 x3 x4 x5 (r57 x0 x1 x2 x3 x4 x5))
 | _, _ => T40 57 args s
noncomputable def T41 : CallF := addF T40 57 s57
set_option maxRecDepth 100000 in
set_option maxHeartbeats 4000000 in
theorem ok41 : CfOk Tryd.prog T41 := by
  refine cfOk_add ok40 fun args s r s' h1 h2 h3 => ?_
  unfold s57 at h3; split at h3
  · rename_i h; exact callOk ok40 Tryd.func57 h1 h2 h (lfOkF_no _ _).body (e57 _ _ _ _ _ _) rfl h3
  · exact ok40 _ _ _ _ _ h1 h2 h3

/-- laws.eqOpS, loop 0: one round -/
noncomputable def b28l0 (ih : Int → List (List Int) → List (List Int) → Nat) (x0 : Int) (x1 x2 : List (List Int)) : Nat :=
 let c226 := (r57 ((x1.getD (Int.toNat x0) []).getD 0 0) ((x1.getD (Int.toNat x0) []).getD 1 0) (Int.toNat ((x1.getD (Int.toNat x0) []).getD 2 0)) ((x2.getD (Int.toNat x0) []).getD 0 0) ((x2.getD (Int.toNat x0) []).getD 1 0) (Int.toNat ((x2.getD (Int.toNat x0) []).getD 2 0)))
 cond (decide ((x0 : Int) < ((x1.length : Nat) : Int)))
  (cond ((decide ((0 : Int) ≤ x0)) && (Nat.blt (Int.toNat x0) x1.length))
   (cond ((decide ((0 : Int) ≤ x0)) && (Nat.blt (Int.toNat x0) x2.length))
    (cond (!c226)
     (0)
     (ih (IntKind.i64.wrap (x0 + 1)) x1 x2))
    (2))
   (2))
  (1)
noncomputable def r28l0 : Nat → Int → List (List Int) → List (List Int) → Nat
 | 0 => fun _ _ _ => (2)
 | m + 1 => b28l0 (r28l0 m)
noncomputable def a28l0 (x0 : Int) (x1 x2 : List (List Int)) (p : Nat) : Option (Fin' × List Value × St) := firstT ([((Nat.beq p 0), .ret, [.bool false], ⟨[⟨true, (some (.tab [.int .i8, .int .i16, .fl .f32] x1))⟩, ⟨true, (some (.tab [.int .i8, .int .i16, .fl .f32] x2))⟩], 2, []⟩), ((Nat.beq p 1), .exit 0, [anyV], ⟨[⟨true, (some (.tab [.int .i8, .int .i16, .fl .f32] x1))⟩, ⟨true, (some (.tab [.int .i8, .int .i16, .fl .f32] x2))⟩], 2, []⟩)].map fun (b, x) => (b, (x.1, frameOf 27 [4] x.2.1, x.2.2)))
noncomputable def u28l0 (x0 : Int) (x1 x2 : List (List Int)) (p : Nat) : Option (Fin' × List Value × St) := alts ([((Nat.beq p 0), .ret, [.bool false], ⟨[⟨true, (some (.tab [.int .i8, .int .i16, .fl .f32] x1))⟩, ⟨true, (some (.tab [.int .i8, .int .i16, .fl .f32] x2))⟩], 2, []⟩), ((Nat.beq p 1), .exit 0, [anyV], ⟨[⟨true, (some (.tab [.int .i8, .int .i16, .fl .f32] x1))⟩, ⟨true, (some (.tab [.int .i8, .int .i16, .fl .f32] x2))⟩], 2, []⟩)].map fun (b, x) => (b, (x.1, frameOf 27 [4] x.2.1, x.2.2))) some
theorem v28l0 (x0 : Int) (x1 x2 : List (List Int)) (p : Nat) : u28l0 x0 x1 x2 p = a28l0 x0 x1 x2 p := alts_first _
noncomputable def q28l0 (m : Nat) : SumK := fun vals s =>
 match vals, s.h with
 | [.iface f0 .nilIface, .iface f1 .nilIface, .int .i64 x0], [⟨true, some (.tab [.int .i8, .int .i16, .fl .f32] x1)⟩, ⟨true, some (.tab [.int .i8, .int .i16, .fl .f32] x2)⟩] => if f0 = 0 ∧ f1 = 1 then [((Nat.beq (r28l0 m x0 x1 x2) 0), .ret, [.bool false], ⟨[⟨true, (some (.tab [.int .i8, .int .i16, .fl .f32] x1))⟩, ⟨true, (some (.tab [.int .i8, .int .i16, .fl .f32] x2))⟩], 2, []⟩), ((Nat.beq (r28l0 m x0 x1 x2) 1), .exit 0, [anyV], ⟨[⟨true, (some (.tab [.int .i8, .int .i16, .fl .f32] x1))⟩, ⟨true, (some (.tab [.int .i8, .int .i16, .fl .f32] x2))⟩], 2, []⟩)] else noQ vals s
 | _, _ => noQ vals s
noncomputable def w28l0 (ih : Int → List (List Int) → List (List Int) → Nat) (x0 : Int) (x1 x2 : List (List Int)) : Option (Fin' × List Value × St) :=
 let c226 := (r57 ((x1.getD (Int.toNat x0) []).getD 0 0) ((x1.getD (Int.toNat x0) []).getD 1 0) (Int.toNat ((x1.getD (Int.toNat x0) []).getD 2 0)) ((x2.getD (Int.toNat x0) []).getD 0 0) ((x2.getD (Int.toNat x0) []).getD 1 0) (Int.toNat ((x2.getD (Int.toNat x0) []).getD 2 0)))
 (cond (decide ((x0 : Int) < ((x1.length : Nat) : Int)))
 (cond ((decide ((0 : Int) ≤ x0)) && (Nat.blt (Int.toNat x0) x1.length))
  (cond (Nat.blt (Int.toNat x0) x1.length)
   (cond ((decide ((0 : Int) ≤ x0)) && (Nat.blt (Int.toNat x0) x2.length))
    (cond (Nat.blt (Int.toNat x0) x2.length)
     (cond (!c226)
      (a28l0 x0 x1 x2 (0))
      (u28l0 x0 x1 x2 (ih (IntKind.i64.wrap (x0 + 1)) x1 x2)))
     none)
    none)
   none)
  none)
 (a28l0 x0 x1 x2 (1)))
set_option maxRecDepth 100000 in
set_option maxHeartbeats 4000000 in
theorem e28l0 (m : Nat) (x0 : Int) (x1 x2 : List (List Int)) : evC Tryd.prog ext T41 noL 200 (loopN Tryd.f28 0) (loopTail ([0, 1, 5], []) [4] [] (sumK 27 [0, 1, 5] [4] (q28l0 m))) (frameOf 27 [0, 1, 5] [wsl 0, wsl 1, vi x0]) ⟨[⟨true, (some (.tab [.int .i8, .int .i16, .fl .f32] x1))⟩, ⟨true, (some (.tab [.int .i8, .int .i16, .fl .f32] x2))⟩], 2, []⟩ = firstT ([((Nat.beq (r28l0 (m + 1) x0 x1 x2) 0), .ret, [.bool false], ⟨[⟨true, (some (.tab [.int .i8, .int .i16, .fl .f32] x1))⟩, ⟨true, (some (.tab [.int .i8, .int .i16, .fl .f32] x2))⟩], 2, []⟩), ((Nat.beq (r28l0 (m + 1) x0 x1 x2) 1), .exit 0, [anyV], ⟨[⟨true, (some (.tab [.int .i8, .int .i16, .fl .f32] x1))⟩, ⟨true, (some (.tab [.int .i8, .int .i16, .fl .f32] x2))⟩], 2, []⟩)].map fun (b, x) => (b, (x.1, frameOf 27 [4] x.2.1, x.2.2))) :=
 (show evC Tryd.prog ext T41 noL 200 (loopN Tryd.f28 0) (loopTail ([0, 1, 5], []) [4] [] (sumK 27 [0, 1, 5] [4] (q28l0 m))) (frameOf 27 [0, 1, 5] [wsl 0, wsl 1, vi x0]) ⟨[⟨true, (some (.tab [.int .i8, .int .i16, .fl .f32] x1))⟩, ⟨true, (some (.tab [.int .i8, .int .i16, .fl .f32] x2))⟩], 2, []⟩ = w28l0 (r28l0 m) x0 x1 x2 from by kernel_rfl).trans
 (show w28l0 (r28l0 m) x0 x1 x2 = a28l0 x0 x1 x2 (r28l0 (m + 1) x0 x1 x2) from by unfold w28l0; show _ = a28l0 x0 x1 x2 (b28l0 (r28l0 m) x0 x1 x2); unfold b28l0; exact (cond_both (a28l0 x0 x1 x2) _ (fun h0 => (cond_both (a28l0 x0 x1 x2) _ (fun h1 => (cond_t (ev_and2 h1) (cond_both (a28l0 x0 x1 x2) _ (fun h2 => (cond_t (ev_and2 h2) (cond_app (a28l0 x0 x1 x2) _ rfl (v28l0 x0 x1 x2 ((r28l0 m) (IntKind.i64.wrap (x0 + 1)) x1 x2))))) (fun h2 => rfl)))) (fun h1 => rfl))) (fun h0 => rfl)))
set_option maxRecDepth 100000 in
set_option maxHeartbeats 4000000 in
theorem qm28l0 : ∀ m, SumKOk Tryd.prog (loopN Tryd.f28 0) 27 [0, 1, 5] [4] (q28l0 m) := by
  intro m
  induction m with
  | zero =>
    intro vals s x h1 h2 h3
    unfold q28l0 at h3; split at h3
    · rename_i h; split at h3
      · rename_i hc; obtain ⟨rfl, rfl⟩ := hc; exact absurd h3 (by simp [r28l0, firstT, Nat.beq])
      · exact noQ_ok _ _ _ h1 h2 h3
    · exact noQ_ok _ _ _ h1 h2 h3
  | succ m ih =>
    intro vals s x h1 h2 h3
    unfold q28l0 at h3; split at h3
    · rename_i h; split at h3
      · rename_i hc; obtain ⟨rfl, rfl⟩ := hc; exact sum_step ok41 extOk mixed ((lfOkF_no _ _).inner (by kernel_rfl)) ih h1 h2 h (e28l0 m _ _ _) rfl h3
      · exact noQ_ok _ _ _ h1 h2 h3
    · exact noQ_ok _ _ _ h1 h2 h3
noncomputable def Q28l0 : SumK := fun vals s => q28l0 (fuelOf vals s.h) vals s
theorem qok28l0 : SumKOk Tryd.prog (loopN Tryd.f28 0) 27 [0, 1, 5] [4] Q28l0 := fuel_ok qm28l0 fuelOf
noncomputable def L28_1 : LoopT := addL noL 5 ([0, 1, 5], []) (sumK 27 [0, 1, 5] [4] Q28l0)
theorem lok28_1 : LfOkF Tryd.prog L28_1 Tryd.f28 := lfOkF_add (lfOkF_no _ _) qok28l0 (by kernel_rfl) (by kernel_rfl) (by kernel_rfl)

/-- laws.eqOpS -/
noncomputable def w28 {α : Type} (x0 x1 : List (List Int)) (k : (Nat × Bool) → α) : α :=
 let c227 := (r28l0 (1000 + x1.length + x0.length) 0 x0 x1)
 cond ((((x0.length : Nat) : Int) : Int) != ((x1.length : Nat) : Int))
  (k (0, false))
  (cond (Nat.beq c227 0)
   (k (0, false))
   (cond (Nat.beq c227 1)
    (k (0, true))
    (k (1, false))))
noncomputable def r28 (x0 x1 : List (List Int)) : Nat × Bool := w28 x0 x1 (fun p => p)
noncomputable def g28 (x0 x1 : List (List Int)) (p : Nat × Bool) : List (Bool × Value × St) := [((Nat.beq (p.1) 0), .bool (p.2), ⟨[⟨true, (some (.tab [.int .i8, .int .i16, .fl .f32] x0))⟩, ⟨true, (some (.tab [.int .i8, .int .i16, .fl .f32] x1))⟩], 2, []⟩)]
theorem p28 {α : Type} (x0 x1 : List (List Int)) (f : (Nat × Bool) → α) : w28 x0 x1 f = f (w28 x0 x1 (fun p => p)) := by unfold w28; exact (cond_app f _ rfl (cond_app f _ rfl (cond_app f _ rfl rfl)))
set_option maxRecDepth 100000 in
set_option maxHeartbeats 4000000 in
theorem e28 (x0 x1 : List (List Int)) : evFn Tryd.prog ext T41 L28_1 200 Tryd.f28 [wsl 0, wsl 1] ⟨[⟨true, (some (.tab [.int .i8, .int .i16, .fl .f32] x0))⟩, ⟨true, (some (.tab [.int .i8, .int .i16, .fl .f32] x1))⟩], 2, []⟩ = firstT (g28 x0 x1 (r28 x0 x1)) :=
 Eq.trans (by kernel_rfl) (p28 x0 x1 (fun p => firstT (g28 x0 x1 p)))
noncomputable def s28 (args : List Value) (s : St) : List (Bool × Value × St) :=
 match args, s.h with
 | [.iface f0 .nilIface, .iface f1 .nilIface], [⟨true, some (.tab [.int .i8, .int .i16, .fl .f32] x0)⟩, ⟨true, some (.tab [.int .i8, .int .i16, .fl .f32] x1)⟩] => if f0 = 0 ∧ f1 = 1 then (g28 x0 x1 (r28 x0 x1)) else T41 28 args s
 | _, _ => T41 28 args s
noncomputable def T42 : CallF := addF T41 28 s28
set_option maxRecDepth 100000 in
set_option maxHeartbeats 4000000 in
theorem ok42 : CfOk Tryd.prog T42 := by
  refine cfOk_add ok41 fun args s r s' h1 h2 h3 => ?_
  unfold s28 at h3; split at h3
  · rename_i h; split at h3
    · rename_i hc; obtain ⟨rfl, rfl⟩ := hc; exact callOk ok41 Tryd.func28 h1 h2 h lok28_1.body (e28 _ _) rfl h3
    · exact ok41 _ _ _ _ _ h1 h2 h3
  · exact ok41 _ _ _ _ _ h1 h2 h3
end Go.Proofs.YtffpnkkhcgjmfaaDoor
