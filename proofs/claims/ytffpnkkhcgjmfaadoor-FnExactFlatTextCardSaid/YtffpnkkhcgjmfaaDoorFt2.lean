/- What the functions that the statements reach answer, part 2. -/
import Derived.Test.YtffpnkkhcgjmfaaDoorFt1
namespace Go.Proofs.YtffpnkkhcgjmfaaDoor
open Go.Ab
set_option maxHeartbeats 4000000
set_option maxRecDepth 100000

/-- spec.l04Text, loop 1: one round -/
noncomputable def b33l1 (ih : ByteArray → Int → List (List Int) → List (List Int) → List (List Int) → List (List Int) → (Nat × ByteArray)) (x0 : ByteArray) (x1 : Int) (x2 x3 x4 x5 : List (List Int)) : Nat × ByteArray :=
 let c328 := (r62 ((x4.getD (Int.toNat x1) []).getD 0 0))
 let c329 := (r62 ((x4.getD (Int.toNat x1) []).getD 1 0))
 let c330 := (r19 (Int.toNat ((x4.getD (Int.toNat x1) []).getD 2 0)))
 let c331 := (r19 (Int.toNat ((x4.getD (Int.toNat x1) []).getD 3 0)))
 let c332 := (r19 (Int.toNat ((x4.getD (Int.toNat x1) []).getD 4 0)))
 let c333 := (r19 (Int.toNat ((x4.getD (Int.toNat x1) []).getD 5 0)))
 let c334 := (r19 (Int.toNat ((x4.getD (Int.toNat x1) []).getD 6 0)))
 let c335 := (r19 (Int.toNat ((x4.getD (Int.toNat x1) []).getD 7 0)))
 cond (decide ((x1 : Int) < ((x4.length : Nat) : Int)))
  (cond ((decide ((0 : Int) ≤ x1)) && (Nat.blt (Int.toNat x1) x4.length))
   (cond (Nat.beq (c328.1) 0)
    (cond (decide (5 + (c328.2).size ≤ strMax))
     (cond (decide (((ByteArray.mk #[119, 97, 108, 108, 32]) ++ (c328.2)).size + 1 ≤ strMax))
      (cond (Nat.beq (c329.1) 0)
       (cond (decide ((((ByteArray.mk #[119, 97, 108, 108, 32]) ++ (c328.2)) ++ (ByteArray.mk #[32])).size + (c329.2).size ≤ strMax))
        (cond (decide (((((ByteArray.mk #[119, 97, 108, 108, 32]) ++ (c328.2)) ++ (ByteArray.mk #[32])) ++ (c329.2)).size + 1 ≤ strMax))
         (cond (Nat.beq (c330.1) 0)
          (cond (decide ((((((ByteArray.mk #[119, 97, 108, 108, 32]) ++ (c328.2)) ++ (ByteArray.mk #[32])) ++ (c329.2)) ++ (ByteArray.mk #[32])).size + (c330.2).size ≤ strMax))
           (cond (decide (((((((ByteArray.mk #[119, 97, 108, 108, 32]) ++ (c328.2)) ++ (ByteArray.mk #[32])) ++ (c329.2)) ++ (ByteArray.mk #[32])) ++ (c330.2)).size + 1 ≤ strMax))
            (cond (Nat.beq (c331.1) 0)
             (cond (decide ((((((((ByteArray.mk #[119, 97, 108, 108, 32]) ++ (c328.2)) ++ (ByteArray.mk #[32])) ++ (c329.2)) ++ (ByteArray.mk #[32])) ++ (c330.2)) ++ (ByteArray.mk #[32])).size + (c331.2).size ≤ strMax))
              (cond (decide (x0.size + ((((((((ByteArray.mk #[119, 97, 108, 108, 32]) ++ (c328.2)) ++ (ByteArray.mk #[32])) ++ (c329.2)) ++ (ByteArray.mk #[32])) ++ (c330.2)) ++ (ByteArray.mk #[32])) ++ (c331.2)).size ≤ strMax))
               (cond (Nat.beq (c332.1) 0)
                (cond (decide (1 + (c332.2).size ≤ strMax))
                 (cond (decide ((x0 ++ ((((((((ByteArray.mk #[119, 97, 108, 108, 32]) ++ (c328.2)) ++ (ByteArray.mk #[32])) ++ (c329.2)) ++ (ByteArray.mk #[32])) ++ (c330.2)) ++ (ByteArray.mk #[32])) ++ (c331.2))).size + ((ByteArray.mk #[32]) ++ (c332.2)).size ≤ strMax))
                  (cond (Nat.beq (c333.1) 0)
                   (cond (decide (1 + (c333.2).size ≤ strMax))
                    (cond (decide (((x0 ++ ((((((((ByteArray.mk #[119, 97, 108, 108, 32]) ++ (c328.2)) ++ (ByteArray.mk #[32])) ++ (c329.2)) ++ (ByteArray.mk #[32])) ++ (c330.2)) ++ (ByteArray.mk #[32])) ++ (c331.2))) ++ ((ByteArray.mk #[32]) ++ (c332.2))).size + ((ByteArray.mk #[32]) ++ (c333.2)).size ≤ strMax))
                     (cond (Nat.beq (c334.1) 0)
                      (cond (decide (1 + (c334.2).size ≤ strMax))
                       (cond (decide ((((x0 ++ ((((((((ByteArray.mk #[119, 97, 108, 108, 32]) ++ (c328.2)) ++ (ByteArray.mk #[32])) ++ (c329.2)) ++ (ByteArray.mk #[32])) ++ (c330.2)) ++ (ByteArray.mk #[32])) ++ (c331.2))) ++ ((ByteArray.mk #[32]) ++ (c332.2))) ++ ((ByteArray.mk #[32]) ++ (c333.2))).size + ((ByteArray.mk #[32]) ++ (c334.2)).size ≤ strMax))
                        (cond (Nat.beq (c335.1) 0)
                         (cond (decide (1 + (c335.2).size ≤ strMax))
                          (cond (decide (((((x0 ++ ((((((((ByteArray.mk #[119, 97, 108, 108, 32]) ++ (c328.2)) ++ (ByteArray.mk #[32])) ++ (c329.2)) ++ (ByteArray.mk #[32])) ++ (c330.2)) ++ (ByteArray.mk #[32])) ++ (c331.2))) ++ ((ByteArray.mk #[32]) ++ (c332.2))) ++ ((ByteArray.mk #[32]) ++ (c333.2))) ++ ((ByteArray.mk #[32]) ++ (c334.2))).size + ((ByteArray.mk #[32]) ++ (c335.2)).size ≤ strMax))
                           (cond (decide ((((((x0 ++ ((((((((ByteArray.mk #[119, 97, 108, 108, 32]) ++ (c328.2)) ++ (ByteArray.mk #[32])) ++ (c329.2)) ++ (ByteArray.mk #[32])) ++ (c330.2)) ++ (ByteArray.mk #[32])) ++ (c331.2))) ++ ((ByteArray.mk #[32]) ++ (c332.2))) ++ ((ByteArray.mk #[32]) ++ (c333.2))) ++ ((ByteArray.mk #[32]) ++ (c334.2))) ++ ((ByteArray.mk #[32]) ++ (c335.2))).size + 1 ≤ strMax))
                            (ih ((((((x0 ++ ((((((((ByteArray.mk #[119, 97, 108, 108, 32]) ++ (c328.2)) ++ (ByteArray.mk #[32])) ++ (c329.2)) ++ (ByteArray.mk #[32])) ++ (c330.2)) ++ (ByteArray.mk #[32])) ++ (c331.2))) ++ ((ByteArray.mk #[32]) ++ (c332.2))) ++ ((ByteArray.mk #[32]) ++ (c333.2))) ++ ((ByteArray.mk #[32]) ++ (c334.2))) ++ ((ByteArray.mk #[32]) ++ (c335.2))) ++ (ByteArray.mk #[10])) (IntKind.i64.wrap (x1 + 1)) x2 x3 x4 x5)
                            (1, ByteArray.empty))
                           (1, ByteArray.empty))
                          (1, ByteArray.empty))
                         (1, ByteArray.empty))
                        (1, ByteArray.empty))
                       (1, ByteArray.empty))
                      (1, ByteArray.empty))
                     (1, ByteArray.empty))
                    (1, ByteArray.empty))
                   (1, ByteArray.empty))
                  (1, ByteArray.empty))
                 (1, ByteArray.empty))
                (1, ByteArray.empty))
               (1, ByteArray.empty))
              (1, ByteArray.empty))
             (1, ByteArray.empty))
            (1, ByteArray.empty))
           (1, ByteArray.empty))
          (1, ByteArray.empty))
         (1, ByteArray.empty))
        (1, ByteArray.empty))
       (1, ByteArray.empty))
      (1, ByteArray.empty))
     (1, ByteArray.empty))
    (1, ByteArray.empty))
   (1, ByteArray.empty))
  (0, x0)
noncomputable def r33l1 : Nat → ByteArray → Int → List (List Int) → List (List Int) → List (List Int) → List (List Int) → (Nat × ByteArray)
 | 0 => fun _ _ _ _ _ _ => (1, ByteArray.empty)
 | m + 1 => b33l1 (r33l1 m)
noncomputable def a33l1 (x0 : ByteArray) (x1 : Int) (x2 x3 x4 x5 : List (List Int)) (p : Nat × ByteArray) : Option (Fin' × List Value × St) := firstT ([((Nat.beq (p.1) 0), .exit 2, [vp 0, .string (p.2)], ⟨[⟨true, (some (.cells [wsl 1, wsl 2, wsl 3, wsl 4]))⟩, ⟨true, (some (.tab [.fl .f32] x2))⟩, ⟨true, (some (.tab [.fl .f32] x3))⟩, ⟨true, (some (.tab sc0 x4))⟩, ⟨true, (some (.tab sc1 x5))⟩], 5, []⟩)].map fun (b, x) => (b, (x.1, frameOf 147 [0, 3] x.2.1, x.2.2)))
noncomputable def u33l1 (x0 : ByteArray) (x1 : Int) (x2 x3 x4 x5 : List (List Int)) (p : Nat × ByteArray) : Option (Fin' × List Value × St) := alts ([((Nat.beq (p.1) 0), .exit 2, [vp 0, .string (p.2)], ⟨[⟨true, (some (.cells [wsl 1, wsl 2, wsl 3, wsl 4]))⟩, ⟨true, (some (.tab [.fl .f32] x2))⟩, ⟨true, (some (.tab [.fl .f32] x3))⟩, ⟨true, (some (.tab sc0 x4))⟩, ⟨true, (some (.tab sc1 x5))⟩], 5, []⟩)].map fun (b, x) => (b, (x.1, frameOf 147 [0, 3] x.2.1, x.2.2))) some
theorem v33l1 (x0 : ByteArray) (x1 : Int) (x2 x3 x4 x5 : List (List Int)) (p : Nat × ByteArray) : u33l1 x0 x1 x2 x3 x4 x5 p = a33l1 x0 x1 x2 x3 x4 x5 p := alts_first _
noncomputable def q33l1 (m : Nat) : SumK := fun vals s =>
 match vals, s.h with
 | [.pointer (some ⟨f0, f1, some f2⟩), .string x0, .int .i64 x1], [⟨true, some (.cells [.iface f3 .nilIface, .iface f4 .nilIface, .iface f5 .nilIface, .iface f6 .nilIface])⟩, ⟨true, some (.tab [.fl .f32] x2)⟩, ⟨true, some (.tab [.fl .f32] x3)⟩, ⟨true, some (.tab [.int .i64, .int .i64, .fl .f32, .fl .f32, .fl .f32, .fl .f32, .fl .f32, .fl .f32] x4)⟩, ⟨true, some (.tab [.int .i64, .int .i64, .fl .f32, .fl .f32] x5)⟩] => if f0 = 0 ∧ f1 = 0 ∧ f2 = 0 ∧ f3 = 1 ∧ f4 = 2 ∧ f5 = 3 ∧ f6 = 4 then [((Nat.beq ((r33l1 m x0 x1 x2 x3 x4 x5).1) 0), .exit 2, [vp 0, .string ((r33l1 m x0 x1 x2 x3 x4 x5).2)], ⟨[⟨true, (some (.cells [wsl 1, wsl 2, wsl 3, wsl 4]))⟩, ⟨true, (some (.tab [.fl .f32] x2))⟩, ⟨true, (some (.tab [.fl .f32] x3))⟩, ⟨true, (some (.tab sc0 x4))⟩, ⟨true, (some (.tab sc1 x5))⟩], 5, []⟩)] else noQ vals s
 | _, _ => noQ vals s
noncomputable def w33l1 (ih : ByteArray → Int → List (List Int) → List (List Int) → List (List Int) → List (List Int) → (Nat × ByteArray)) (x0 : ByteArray) (x1 : Int) (x2 x3 x4 x5 : List (List Int)) : Option (Fin' × List Value × St) :=
 let c328 := (r62 ((x4.getD (Int.toNat x1) []).getD 0 0))
 let c329 := (r62 ((x4.getD (Int.toNat x1) []).getD 1 0))
 let c330 := (r19 (Int.toNat ((x4.getD (Int.toNat x1) []).getD 2 0)))
 let c331 := (r19 (Int.toNat ((x4.getD (Int.toNat x1) []).getD 3 0)))
 let c332 := (r19 (Int.toNat ((x4.getD (Int.toNat x1) []).getD 4 0)))
 let c333 := (r19 (Int.toNat ((x4.getD (Int.toNat x1) []).getD 5 0)))
 let c334 := (r19 (Int.toNat ((x4.getD (Int.toNat x1) []).getD 6 0)))
 let c335 := (r19 (Int.toNat ((x4.getD (Int.toNat x1) []).getD 7 0)))
 (cond (decide ((x1 : Int) < ((x4.length : Nat) : Int)))
 (cond ((decide ((0 : Int) ≤ x1)) && (Nat.blt (Int.toNat x1) x4.length))
  (cond (Nat.blt (Int.toNat x1) x4.length)
   (cond (Nat.beq (c328.1) 0)
    (cond (decide (5 + (c328.2).size ≤ strMax))
     (cond (decide (((ByteArray.mk #[119, 97, 108, 108, 32]) ++ (c328.2)).size + 1 ≤ strMax))
      (cond (Nat.blt (Int.toNat x1) x4.length)
       (cond (Nat.beq (c329.1) 0)
        (cond (decide ((((ByteArray.mk #[119, 97, 108, 108, 32]) ++ (c328.2)) ++ (ByteArray.mk #[32])).size + (c329.2).size ≤ strMax))
         (cond (decide (((((ByteArray.mk #[119, 97, 108, 108, 32]) ++ (c328.2)) ++ (ByteArray.mk #[32])) ++ (c329.2)).size + 1 ≤ strMax))
          (cond (Nat.blt (Int.toNat x1) x4.length)
           (cond (Nat.beq (c330.1) 0)
            (cond (decide ((((((ByteArray.mk #[119, 97, 108, 108, 32]) ++ (c328.2)) ++ (ByteArray.mk #[32])) ++ (c329.2)) ++ (ByteArray.mk #[32])).size + (c330.2).size ≤ strMax))
             (cond (decide (((((((ByteArray.mk #[119, 97, 108, 108, 32]) ++ (c328.2)) ++ (ByteArray.mk #[32])) ++ (c329.2)) ++ (ByteArray.mk #[32])) ++ (c330.2)).size + 1 ≤ strMax))
              (cond (Nat.blt (Int.toNat x1) x4.length)
               (cond (Nat.beq (c331.1) 0)
                (cond (decide ((((((((ByteArray.mk #[119, 97, 108, 108, 32]) ++ (c328.2)) ++ (ByteArray.mk #[32])) ++ (c329.2)) ++ (ByteArray.mk #[32])) ++ (c330.2)) ++ (ByteArray.mk #[32])).size + (c331.2).size ≤ strMax))
                 (cond (decide (x0.size + ((((((((ByteArray.mk #[119, 97, 108, 108, 32]) ++ (c328.2)) ++ (ByteArray.mk #[32])) ++ (c329.2)) ++ (ByteArray.mk #[32])) ++ (c330.2)) ++ (ByteArray.mk #[32])) ++ (c331.2)).size ≤ strMax))
                  (cond (Nat.blt (Int.toNat x1) x4.length)
                   (cond (Nat.beq (c332.1) 0)
                    (cond (decide (1 + (c332.2).size ≤ strMax))
                     (cond (decide ((x0 ++ ((((((((ByteArray.mk #[119, 97, 108, 108, 32]) ++ (c328.2)) ++ (ByteArray.mk #[32])) ++ (c329.2)) ++ (ByteArray.mk #[32])) ++ (c330.2)) ++ (ByteArray.mk #[32])) ++ (c331.2))).size + ((ByteArray.mk #[32]) ++ (c332.2)).size ≤ strMax))
                      (cond (Nat.blt (Int.toNat x1) x4.length)
                       (cond (Nat.beq (c333.1) 0)
                        (cond (decide (1 + (c333.2).size ≤ strMax))
                         (cond (decide (((x0 ++ ((((((((ByteArray.mk #[119, 97, 108, 108, 32]) ++ (c328.2)) ++ (ByteArray.mk #[32])) ++ (c329.2)) ++ (ByteArray.mk #[32])) ++ (c330.2)) ++ (ByteArray.mk #[32])) ++ (c331.2))) ++ ((ByteArray.mk #[32]) ++ (c332.2))).size + ((ByteArray.mk #[32]) ++ (c333.2)).size ≤ strMax))
                          (cond (Nat.blt (Int.toNat x1) x4.length)
                           (cond (Nat.beq (c334.1) 0)
                            (cond (decide (1 + (c334.2).size ≤ strMax))
                             (cond (decide ((((x0 ++ ((((((((ByteArray.mk #[119, 97, 108, 108, 32]) ++ (c328.2)) ++ (ByteArray.mk #[32])) ++ (c329.2)) ++ (ByteArray.mk #[32])) ++ (c330.2)) ++ (ByteArray.mk #[32])) ++ (c331.2))) ++ ((ByteArray.mk #[32]) ++ (c332.2))) ++ ((ByteArray.mk #[32]) ++ (c333.2))).size + ((ByteArray.mk #[32]) ++ (c334.2)).size ≤ strMax))
                              (cond (Nat.blt (Int.toNat x1) x4.length)
                               (cond (Nat.beq (c335.1) 0)
                                (cond (decide (1 + (c335.2).size ≤ strMax))
                                 (cond (decide (((((x0 ++ ((((((((ByteArray.mk #[119, 97, 108, 108, 32]) ++ (c328.2)) ++ (ByteArray.mk #[32])) ++ (c329.2)) ++ (ByteArray.mk #[32])) ++ (c330.2)) ++ (ByteArray.mk #[32])) ++ (c331.2))) ++ ((ByteArray.mk #[32]) ++ (c332.2))) ++ ((ByteArray.mk #[32]) ++ (c333.2))) ++ ((ByteArray.mk #[32]) ++ (c334.2))).size + ((ByteArray.mk #[32]) ++ (c335.2)).size ≤ strMax))
                                  (cond (decide ((((((x0 ++ ((((((((ByteArray.mk #[119, 97, 108, 108, 32]) ++ (c328.2)) ++ (ByteArray.mk #[32])) ++ (c329.2)) ++ (ByteArray.mk #[32])) ++ (c330.2)) ++ (ByteArray.mk #[32])) ++ (c331.2))) ++ ((ByteArray.mk #[32]) ++ (c332.2))) ++ ((ByteArray.mk #[32]) ++ (c333.2))) ++ ((ByteArray.mk #[32]) ++ (c334.2))) ++ ((ByteArray.mk #[32]) ++ (c335.2))).size + 1 ≤ strMax))
                                   (u33l1 x0 x1 x2 x3 x4 x5 (ih ((((((x0 ++ ((((((((ByteArray.mk #[119, 97, 108, 108, 32]) ++ (c328.2)) ++ (ByteArray.mk #[32])) ++ (c329.2)) ++ (ByteArray.mk #[32])) ++ (c330.2)) ++ (ByteArray.mk #[32])) ++ (c331.2))) ++ ((ByteArray.mk #[32]) ++ (c332.2))) ++ ((ByteArray.mk #[32]) ++ (c333.2))) ++ ((ByteArray.mk #[32]) ++ (c334.2))) ++ ((ByteArray.mk #[32]) ++ (c335.2))) ++ (ByteArray.mk #[10])) (IntKind.i64.wrap (x1 + 1)) x2 x3 x4 x5))
                                   none)
                                  none)
                                 none)
                                none)
                               none)
                              none)
                             none)
                            none)
                           none)
                          none)
                         none)
                        none)
                       none)
                      none)
                     none)
                    none)
                   none)
                  none)
                 none)
                none)
               none)
              none)
             none)
            none)
           none)
          none)
         none)
        none)
       none)
      none)
     none)
    none)
   none)
  none)
 (a33l1 x0 x1 x2 x3 x4 x5 (0, x0)))
set_option maxRecDepth 100000 in
set_option maxHeartbeats 4000000 in
theorem e33l1 (m : Nat) (x0 : ByteArray) (x1 : Int) (x2 x3 x4 x5 : List (List Int)) : evC Tryd.prog ext T24 L33_1 200 (loopN Tryd.f33 1) (loopTail ([0, 3, 5], []) [0, 3] [] (sumK 147 [0, 3, 5] [0, 3] (q33l1 m))) (frameOf 147 [0, 3, 5] [vp 0, .string x0, vi x1]) ⟨[⟨true, (some (.cells [wsl 1, wsl 2, wsl 3, wsl 4]))⟩, ⟨true, (some (.tab [.fl .f32] x2))⟩, ⟨true, (some (.tab [.fl .f32] x3))⟩, ⟨true, (some (.tab sc0 x4))⟩, ⟨true, (some (.tab sc1 x5))⟩], 5, []⟩ = firstT ([((Nat.beq ((r33l1 (m + 1) x0 x1 x2 x3 x4 x5).1) 0), .exit 2, [vp 0, .string ((r33l1 (m + 1) x0 x1 x2 x3 x4 x5).2)], ⟨[⟨true, (some (.cells [wsl 1, wsl 2, wsl 3, wsl 4]))⟩, ⟨true, (some (.tab [.fl .f32] x2))⟩, ⟨true, (some (.tab [.fl .f32] x3))⟩, ⟨true, (some (.tab sc0 x4))⟩, ⟨true, (some (.tab sc1 x5))⟩], 5, []⟩)].map fun (b, x) => (b, (x.1, frameOf 147 [0, 3] x.2.1, x.2.2))) :=
 (show evC Tryd.prog ext T24 L33_1 200 (loopN Tryd.f33 1) (loopTail ([0, 3, 5], []) [0, 3] [] (sumK 147 [0, 3, 5] [0, 3] (q33l1 m))) (frameOf 147 [0, 3, 5] [vp 0, .string x0, vi x1]) ⟨[⟨true, (some (.cells [wsl 1, wsl 2, wsl 3, wsl 4]))⟩, ⟨true, (some (.tab [.fl .f32] x2))⟩, ⟨true, (some (.tab [.fl .f32] x3))⟩, ⟨true, (some (.tab sc0 x4))⟩, ⟨true, (some (.tab sc1 x5))⟩], 5, []⟩ = w33l1 (r33l1 m) x0 x1 x2 x3 x4 x5 from by kernel_rfl).trans
 (show w33l1 (r33l1 m) x0 x1 x2 x3 x4 x5 = a33l1 x0 x1 x2 x3 x4 x5 (r33l1 (m + 1) x0 x1 x2 x3 x4 x5) from by unfold w33l1; show _ = a33l1 x0 x1 x2 x3 x4 x5 (b33l1 (r33l1 m) x0 x1 x2 x3 x4 x5); unfold b33l1; exact (cond_both (a33l1 x0 x1 x2 x3 x4 x5) _ (fun h0 => (cond_both (a33l1 x0 x1 x2 x3 x4 x5) _ (fun h1 => (cond_t (ev_and2 h1) (cond_both (a33l1 x0 x1 x2 x3 x4 x5) _ (fun h2 => (cond_both (a33l1 x0 x1 x2 x3 x4 x5) _ (fun h3 => (cond_both (a33l1 x0 x1 x2 x3 x4 x5) _ (fun h4 => (cond_t (ev_and2 h1) (cond_both (a33l1 x0 x1 x2 x3 x4 x5) _ (fun h5 => (cond_both (a33l1 x0 x1 x2 x3 x4 x5) _ (fun h6 => (cond_both (a33l1 x0 x1 x2 x3 x4 x5) _ (fun h7 => (cond_t (ev_and2 h1) (cond_both (a33l1 x0 x1 x2 x3 x4 x5) _ (fun h8 => (cond_both (a33l1 x0 x1 x2 x3 x4 x5) _ (fun h9 => (cond_both (a33l1 x0 x1 x2 x3 x4 x5) _ (fun h10 => (cond_t (ev_and2 h1) (cond_both (a33l1 x0 x1 x2 x3 x4 x5) _ (fun h11 => (cond_both (a33l1 x0 x1 x2 x3 x4 x5) _ (fun h12 => (cond_both (a33l1 x0 x1 x2 x3 x4 x5) _ (fun h13 => (cond_t (ev_and2 h1) (cond_both (a33l1 x0 x1 x2 x3 x4 x5) _ (fun h14 => (cond_both (a33l1 x0 x1 x2 x3 x4 x5) _ (fun h15 => (cond_both (a33l1 x0 x1 x2 x3 x4 x5) _ (fun h16 => (cond_t (ev_and2 h1) (cond_both (a33l1 x0 x1 x2 x3 x4 x5) _ (fun h17 => (cond_both (a33l1 x0 x1 x2 x3 x4 x5) _ (fun h18 => (cond_both (a33l1 x0 x1 x2 x3 x4 x5) _ (fun h19 => (cond_t (ev_and2 h1) (cond_both (a33l1 x0 x1 x2 x3 x4 x5) _ (fun h20 => (cond_both (a33l1 x0 x1 x2 x3 x4 x5) _ (fun h21 => (cond_both (a33l1 x0 x1 x2 x3 x4 x5) _ (fun h22 => (cond_t (ev_and2 h1) (cond_app (a33l1 x0 x1 x2 x3 x4 x5) _ (cond_app (a33l1 x0 x1 x2 x3 x4 x5) _ (cond_app (a33l1 x0 x1 x2 x3 x4 x5) _ (cond_app (a33l1 x0 x1 x2 x3 x4 x5) _ (v33l1 x0 x1 x2 x3 x4 x5 ((r33l1 m) ((((((x0 ++ ((((((((ByteArray.mk #[119, 97, 108, 108, 32]) ++ ((r62 ((x4.getD (Int.toNat x1) []).getD 0 0)).2)) ++ (ByteArray.mk #[32])) ++ ((r62 ((x4.getD (Int.toNat x1) []).getD 1 0)).2)) ++ (ByteArray.mk #[32])) ++ ((r19 (Int.toNat ((x4.getD (Int.toNat x1) []).getD 2 0))).2)) ++ (ByteArray.mk #[32])) ++ ((r19 (Int.toNat ((x4.getD (Int.toNat x1) []).getD 3 0))).2))) ++ ((ByteArray.mk #[32]) ++ ((r19 (Int.toNat ((x4.getD (Int.toNat x1) []).getD 4 0))).2))) ++ ((ByteArray.mk #[32]) ++ ((r19 (Int.toNat ((x4.getD (Int.toNat x1) []).getD 5 0))).2))) ++ ((ByteArray.mk #[32]) ++ ((r19 (Int.toNat ((x4.getD (Int.toNat x1) []).getD 6 0))).2))) ++ ((ByteArray.mk #[32]) ++ ((r19 (Int.toNat ((x4.getD (Int.toNat x1) []).getD 7 0))).2))) ++ (ByteArray.mk #[10])) (IntKind.i64.wrap (x1 + 1)) x2 x3 x4 x5)) rfl) rfl) rfl) rfl))) (fun h22 => rfl))) (fun h21 => rfl))) (fun h20 => rfl)))) (fun h19 => rfl))) (fun h18 => rfl))) (fun h17 => rfl)))) (fun h16 => rfl))) (fun h15 => rfl))) (fun h14 => rfl)))) (fun h13 => rfl))) (fun h12 => rfl))) (fun h11 => rfl)))) (fun h10 => rfl))) (fun h9 => rfl))) (fun h8 => rfl)))) (fun h7 => rfl))) (fun h6 => rfl))) (fun h5 => rfl)))) (fun h4 => rfl))) (fun h3 => rfl))) (fun h2 => rfl)))) (fun h1 => rfl))) (fun h0 => rfl)))
set_option maxRecDepth 100000 in
set_option maxHeartbeats 4000000 in
theorem qm33l1 : ∀ m, SumKOk Tryd.prog (loopN Tryd.f33 1) 147 [0, 3, 5] [0, 3] (q33l1 m) := by
  intro m
  induction m with
  | zero =>
    intro vals s x h1 h2 h3
    unfold q33l1 at h3; split at h3
    · rename_i h; split at h3
      · rename_i hc; obtain ⟨rfl, rfl, rfl, rfl, rfl, rfl, rfl⟩ := hc; exact absurd h3 (by simp [r33l1, firstT, Nat.beq])
      · exact noQ_ok _ _ _ h1 h2 h3
    · exact noQ_ok _ _ _ h1 h2 h3
  | succ m ih =>
    intro vals s x h1 h2 h3
    unfold q33l1 at h3; split at h3
    · rename_i h; split at h3
      · rename_i hc; obtain ⟨rfl, rfl, rfl, rfl, rfl, rfl, rfl⟩ := hc; exact sum_step ok24 extOk mixed (lok33_1.inner (by kernel_rfl)) ih h1 h2 h (e33l1 m _ _ _ _ _ _) rfl h3
      · exact noQ_ok _ _ _ h1 h2 h3
    · exact noQ_ok _ _ _ h1 h2 h3
noncomputable def Q33l1 : SumK := fun vals s => q33l1 (fuelOf vals s.h) vals s
theorem qok33l1 : SumKOk Tryd.prog (loopN Tryd.f33 1) 147 [0, 3, 5] [0, 3] Q33l1 := fuel_ok qm33l1 fuelOf
noncomputable def L33_2 : LoopT := addL L33_1 8 ([0, 3, 5], []) (sumK 147 [0, 3, 5] [0, 3] Q33l1)
theorem lok33_2 : LfOkF Tryd.prog L33_2 Tryd.f33 := lfOkF_add lok33_1 qok33l1 (by kernel_rfl) (by kernel_rfl) (by kernel_rfl)

/-- spec.l04Text, loop 3: one round -/
noncomputable def b33l3 (ih : ByteArray → Int → List (List Int) → List (List Int) → List (List Int) → List (List Int) → (Nat × ByteArray)) (x0 : ByteArray) (x1 : Int) (x2 x3 x4 x5 : List (List Int)) : Nat × ByteArray :=
 let c371 := (r62 ((x5.getD (Int.toNat x1) []).getD 0 0))
 let c372 := (r62 ((x5.getD (Int.toNat x1) []).getD 1 0))
 let c373 := (r19 (Int.toNat ((x5.getD (Int.toNat x1) []).getD 2 0)))
 let c374 := (r19 (Int.toNat ((x5.getD (Int.toNat x1) []).getD 3 0)))
 cond (decide ((x1 : Int) < ((x5.length : Nat) : Int)))
  (cond ((decide ((0 : Int) ≤ x1)) && (Nat.blt (Int.toNat x1) x5.length))
   (cond (Nat.beq (c371.1) 0)
    (cond (decide (5 + (c371.2).size ≤ strMax))
     (cond (decide (((ByteArray.mk #[112, 97, 110, 101, 32]) ++ (c371.2)).size + 1 ≤ strMax))
      (cond (Nat.beq (c372.1) 0)
       (cond (decide ((((ByteArray.mk #[112, 97, 110, 101, 32]) ++ (c371.2)) ++ (ByteArray.mk #[32])).size + (c372.2).size ≤ strMax))
        (cond (decide (((((ByteArray.mk #[112, 97, 110, 101, 32]) ++ (c371.2)) ++ (ByteArray.mk #[32])) ++ (c372.2)).size + 1 ≤ strMax))
         (cond (Nat.beq (c373.1) 0)
          (cond (decide ((((((ByteArray.mk #[112, 97, 110, 101, 32]) ++ (c371.2)) ++ (ByteArray.mk #[32])) ++ (c372.2)) ++ (ByteArray.mk #[32])).size + (c373.2).size ≤ strMax))
           (cond (decide (((((((ByteArray.mk #[112, 97, 110, 101, 32]) ++ (c371.2)) ++ (ByteArray.mk #[32])) ++ (c372.2)) ++ (ByteArray.mk #[32])) ++ (c373.2)).size + 1 ≤ strMax))
            (cond (Nat.beq (c374.1) 0)
             (cond (decide ((((((((ByteArray.mk #[112, 97, 110, 101, 32]) ++ (c371.2)) ++ (ByteArray.mk #[32])) ++ (c372.2)) ++ (ByteArray.mk #[32])) ++ (c373.2)) ++ (ByteArray.mk #[32])).size + (c374.2).size ≤ strMax))
              (cond (decide (((((((((ByteArray.mk #[112, 97, 110, 101, 32]) ++ (c371.2)) ++ (ByteArray.mk #[32])) ++ (c372.2)) ++ (ByteArray.mk #[32])) ++ (c373.2)) ++ (ByteArray.mk #[32])) ++ (c374.2)).size + 1 ≤ strMax))
               (cond (decide (x0.size + (((((((((ByteArray.mk #[112, 97, 110, 101, 32]) ++ (c371.2)) ++ (ByteArray.mk #[32])) ++ (c372.2)) ++ (ByteArray.mk #[32])) ++ (c373.2)) ++ (ByteArray.mk #[32])) ++ (c374.2)) ++ (ByteArray.mk #[10])).size ≤ strMax))
                (ih (x0 ++ (((((((((ByteArray.mk #[112, 97, 110, 101, 32]) ++ (c371.2)) ++ (ByteArray.mk #[32])) ++ (c372.2)) ++ (ByteArray.mk #[32])) ++ (c373.2)) ++ (ByteArray.mk #[32])) ++ (c374.2)) ++ (ByteArray.mk #[10]))) (IntKind.i64.wrap (x1 + 1)) x2 x3 x4 x5)
                (1, ByteArray.empty))
               (1, ByteArray.empty))
              (1, ByteArray.empty))
             (1, ByteArray.empty))
            (1, ByteArray.empty))
           (1, ByteArray.empty))
          (1, ByteArray.empty))
         (1, ByteArray.empty))
        (1, ByteArray.empty))
       (1, ByteArray.empty))
      (1, ByteArray.empty))
     (1, ByteArray.empty))
    (1, ByteArray.empty))
   (1, ByteArray.empty))
  (0, x0)
noncomputable def r33l3 : Nat → ByteArray → Int → List (List Int) → List (List Int) → List (List Int) → List (List Int) → (Nat × ByteArray)
 | 0 => fun _ _ _ _ _ _ => (1, ByteArray.empty)
 | m + 1 => b33l3 (r33l3 m)
noncomputable def a33l3 (x0 : ByteArray) (x1 : Int) (x2 x3 x4 x5 : List (List Int)) (p : Nat × ByteArray) : Option (Fin' × List Value × St) := firstT ([((Nat.beq (p.1) 0), .exit 6, [.string (p.2)], ⟨[⟨true, (some (.cells [wsl 1, wsl 2, wsl 3, wsl 4]))⟩, ⟨true, (some (.tab [.fl .f32] x2))⟩, ⟨true, (some (.tab [.fl .f32] x3))⟩, ⟨true, (some (.tab sc0 x4))⟩, ⟨true, (some (.tab sc1 x5))⟩], 5, []⟩)].map fun (b, x) => (b, (x.1, frameOf 147 [3] x.2.1, x.2.2)))
noncomputable def u33l3 (x0 : ByteArray) (x1 : Int) (x2 x3 x4 x5 : List (List Int)) (p : Nat × ByteArray) : Option (Fin' × List Value × St) := alts ([((Nat.beq (p.1) 0), .exit 6, [.string (p.2)], ⟨[⟨true, (some (.cells [wsl 1, wsl 2, wsl 3, wsl 4]))⟩, ⟨true, (some (.tab [.fl .f32] x2))⟩, ⟨true, (some (.tab [.fl .f32] x3))⟩, ⟨true, (some (.tab sc0 x4))⟩, ⟨true, (some (.tab sc1 x5))⟩], 5, []⟩)].map fun (b, x) => (b, (x.1, frameOf 147 [3] x.2.1, x.2.2))) some
theorem v33l3 (x0 : ByteArray) (x1 : Int) (x2 x3 x4 x5 : List (List Int)) (p : Nat × ByteArray) : u33l3 x0 x1 x2 x3 x4 x5 p = a33l3 x0 x1 x2 x3 x4 x5 p := alts_first _
noncomputable def q33l3 (m : Nat) : SumK := fun vals s =>
 match vals, s.h with
 | [.pointer (some ⟨f0, f1, some f2⟩), .string x0, .int .i64 x1], [⟨true, some (.cells [.iface f3 .nilIface, .iface f4 .nilIface, .iface f5 .nilIface, .iface f6 .nilIface])⟩, ⟨true, some (.tab [.fl .f32] x2)⟩, ⟨true, some (.tab [.fl .f32] x3)⟩, ⟨true, some (.tab [.int .i64, .int .i64, .fl .f32, .fl .f32, .fl .f32, .fl .f32, .fl .f32, .fl .f32] x4)⟩, ⟨true, some (.tab [.int .i64, .int .i64, .fl .f32, .fl .f32] x5)⟩] => if f0 = 0 ∧ f1 = 0 ∧ f2 = 0 ∧ f3 = 1 ∧ f4 = 2 ∧ f5 = 3 ∧ f6 = 4 then [((Nat.beq ((r33l3 m x0 x1 x2 x3 x4 x5).1) 0), .exit 6, [.string ((r33l3 m x0 x1 x2 x3 x4 x5).2)], ⟨[⟨true, (some (.cells [wsl 1, wsl 2, wsl 3, wsl 4]))⟩, ⟨true, (some (.tab [.fl .f32] x2))⟩, ⟨true, (some (.tab [.fl .f32] x3))⟩, ⟨true, (some (.tab sc0 x4))⟩, ⟨true, (some (.tab sc1 x5))⟩], 5, []⟩)] else noQ vals s
 | _, _ => noQ vals s
noncomputable def w33l3 (ih : ByteArray → Int → List (List Int) → List (List Int) → List (List Int) → List (List Int) → (Nat × ByteArray)) (x0 : ByteArray) (x1 : Int) (x2 x3 x4 x5 : List (List Int)) : Option (Fin' × List Value × St) :=
 let c371 := (r62 ((x5.getD (Int.toNat x1) []).getD 0 0))
 let c372 := (r62 ((x5.getD (Int.toNat x1) []).getD 1 0))
 let c373 := (r19 (Int.toNat ((x5.getD (Int.toNat x1) []).getD 2 0)))
 let c374 := (r19 (Int.toNat ((x5.getD (Int.toNat x1) []).getD 3 0)))
 (cond (decide ((x1 : Int) < ((x5.length : Nat) : Int)))
 (cond ((decide ((0 : Int) ≤ x1)) && (Nat.blt (Int.toNat x1) x5.length))
  (cond (Nat.blt (Int.toNat x1) x5.length)
   (cond (Nat.beq (c371.1) 0)
    (cond (decide (5 + (c371.2).size ≤ strMax))
     (cond (decide (((ByteArray.mk #[112, 97, 110, 101, 32]) ++ (c371.2)).size + 1 ≤ strMax))
      (cond (Nat.blt (Int.toNat x1) x5.length)
       (cond (Nat.beq (c372.1) 0)
        (cond (decide ((((ByteArray.mk #[112, 97, 110, 101, 32]) ++ (c371.2)) ++ (ByteArray.mk #[32])).size + (c372.2).size ≤ strMax))
         (cond (decide (((((ByteArray.mk #[112, 97, 110, 101, 32]) ++ (c371.2)) ++ (ByteArray.mk #[32])) ++ (c372.2)).size + 1 ≤ strMax))
          (cond (Nat.blt (Int.toNat x1) x5.length)
           (cond (Nat.beq (c373.1) 0)
            (cond (decide ((((((ByteArray.mk #[112, 97, 110, 101, 32]) ++ (c371.2)) ++ (ByteArray.mk #[32])) ++ (c372.2)) ++ (ByteArray.mk #[32])).size + (c373.2).size ≤ strMax))
             (cond (decide (((((((ByteArray.mk #[112, 97, 110, 101, 32]) ++ (c371.2)) ++ (ByteArray.mk #[32])) ++ (c372.2)) ++ (ByteArray.mk #[32])) ++ (c373.2)).size + 1 ≤ strMax))
              (cond (Nat.blt (Int.toNat x1) x5.length)
               (cond (Nat.beq (c374.1) 0)
                (cond (decide ((((((((ByteArray.mk #[112, 97, 110, 101, 32]) ++ (c371.2)) ++ (ByteArray.mk #[32])) ++ (c372.2)) ++ (ByteArray.mk #[32])) ++ (c373.2)) ++ (ByteArray.mk #[32])).size + (c374.2).size ≤ strMax))
                 (cond (decide (((((((((ByteArray.mk #[112, 97, 110, 101, 32]) ++ (c371.2)) ++ (ByteArray.mk #[32])) ++ (c372.2)) ++ (ByteArray.mk #[32])) ++ (c373.2)) ++ (ByteArray.mk #[32])) ++ (c374.2)).size + 1 ≤ strMax))
                  (cond (decide (x0.size + (((((((((ByteArray.mk #[112, 97, 110, 101, 32]) ++ (c371.2)) ++ (ByteArray.mk #[32])) ++ (c372.2)) ++ (ByteArray.mk #[32])) ++ (c373.2)) ++ (ByteArray.mk #[32])) ++ (c374.2)) ++ (ByteArray.mk #[10])).size ≤ strMax))
                   (u33l3 x0 x1 x2 x3 x4 x5 (ih (x0 ++ (((((((((ByteArray.mk #[112, 97, 110, 101, 32]) ++ (c371.2)) ++ (ByteArray.mk #[32])) ++ (c372.2)) ++ (ByteArray.mk #[32])) ++ (c373.2)) ++ (ByteArray.mk #[32])) ++ (c374.2)) ++ (ByteArray.mk #[10]))) (IntKind.i64.wrap (x1 + 1)) x2 x3 x4 x5))
                   none)
                  none)
                 none)
                none)
               none)
              none)
             none)
            none)
           none)
          none)
         none)
        none)
       none)
      none)
     none)
    none)
   none)
  none)
 (a33l3 x0 x1 x2 x3 x4 x5 (0, x0)))
set_option maxRecDepth 100000 in
set_option maxHeartbeats 4000000 in
theorem e33l3 (m : Nat) (x0 : ByteArray) (x1 : Int) (x2 x3 x4 x5 : List (List Int)) : evC Tryd.prog ext T24 L33_2 200 (loopN Tryd.f33 3) (loopTail ([0, 3, 8], []) [3] [] (sumK 147 [0, 3, 8] [3] (q33l3 m))) (frameOf 147 [0, 3, 8] [vp 0, .string x0, vi x1]) ⟨[⟨true, (some (.cells [wsl 1, wsl 2, wsl 3, wsl 4]))⟩, ⟨true, (some (.tab [.fl .f32] x2))⟩, ⟨true, (some (.tab [.fl .f32] x3))⟩, ⟨true, (some (.tab sc0 x4))⟩, ⟨true, (some (.tab sc1 x5))⟩], 5, []⟩ = firstT ([((Nat.beq ((r33l3 (m + 1) x0 x1 x2 x3 x4 x5).1) 0), .exit 6, [.string ((r33l3 (m + 1) x0 x1 x2 x3 x4 x5).2)], ⟨[⟨true, (some (.cells [wsl 1, wsl 2, wsl 3, wsl 4]))⟩, ⟨true, (some (.tab [.fl .f32] x2))⟩, ⟨true, (some (.tab [.fl .f32] x3))⟩, ⟨true, (some (.tab sc0 x4))⟩, ⟨true, (some (.tab sc1 x5))⟩], 5, []⟩)].map fun (b, x) => (b, (x.1, frameOf 147 [3] x.2.1, x.2.2))) :=
 (show evC Tryd.prog ext T24 L33_2 200 (loopN Tryd.f33 3) (loopTail ([0, 3, 8], []) [3] [] (sumK 147 [0, 3, 8] [3] (q33l3 m))) (frameOf 147 [0, 3, 8] [vp 0, .string x0, vi x1]) ⟨[⟨true, (some (.cells [wsl 1, wsl 2, wsl 3, wsl 4]))⟩, ⟨true, (some (.tab [.fl .f32] x2))⟩, ⟨true, (some (.tab [.fl .f32] x3))⟩, ⟨true, (some (.tab sc0 x4))⟩, ⟨true, (some (.tab sc1 x5))⟩], 5, []⟩ = w33l3 (r33l3 m) x0 x1 x2 x3 x4 x5 from by kernel_rfl).trans
 (show w33l3 (r33l3 m) x0 x1 x2 x3 x4 x5 = a33l3 x0 x1 x2 x3 x4 x5 (r33l3 (m + 1) x0 x1 x2 x3 x4 x5) from by unfold w33l3; show _ = a33l3 x0 x1 x2 x3 x4 x5 (b33l3 (r33l3 m) x0 x1 x2 x3 x4 x5); unfold b33l3; exact (cond_both (a33l3 x0 x1 x2 x3 x4 x5) _ (fun h0 => (cond_both (a33l3 x0 x1 x2 x3 x4 x5) _ (fun h1 => (cond_t (ev_and2 h1) (cond_both (a33l3 x0 x1 x2 x3 x4 x5) _ (fun h2 => (cond_both (a33l3 x0 x1 x2 x3 x4 x5) _ (fun h3 => (cond_both (a33l3 x0 x1 x2 x3 x4 x5) _ (fun h4 => (cond_t (ev_and2 h1) (cond_both (a33l3 x0 x1 x2 x3 x4 x5) _ (fun h5 => (cond_both (a33l3 x0 x1 x2 x3 x4 x5) _ (fun h6 => (cond_both (a33l3 x0 x1 x2 x3 x4 x5) _ (fun h7 => (cond_t (ev_and2 h1) (cond_both (a33l3 x0 x1 x2 x3 x4 x5) _ (fun h8 => (cond_both (a33l3 x0 x1 x2 x3 x4 x5) _ (fun h9 => (cond_both (a33l3 x0 x1 x2 x3 x4 x5) _ (fun h10 => (cond_t (ev_and2 h1) (cond_app (a33l3 x0 x1 x2 x3 x4 x5) _ (cond_app (a33l3 x0 x1 x2 x3 x4 x5) _ (cond_app (a33l3 x0 x1 x2 x3 x4 x5) _ (cond_app (a33l3 x0 x1 x2 x3 x4 x5) _ (v33l3 x0 x1 x2 x3 x4 x5 ((r33l3 m) (x0 ++ (((((((((ByteArray.mk #[112, 97, 110, 101, 32]) ++ ((r62 ((x5.getD (Int.toNat x1) []).getD 0 0)).2)) ++ (ByteArray.mk #[32])) ++ ((r62 ((x5.getD (Int.toNat x1) []).getD 1 0)).2)) ++ (ByteArray.mk #[32])) ++ ((r19 (Int.toNat ((x5.getD (Int.toNat x1) []).getD 2 0))).2)) ++ (ByteArray.mk #[32])) ++ ((r19 (Int.toNat ((x5.getD (Int.toNat x1) []).getD 3 0))).2)) ++ (ByteArray.mk #[10]))) (IntKind.i64.wrap (x1 + 1)) x2 x3 x4 x5)) rfl) rfl) rfl) rfl))) (fun h10 => rfl))) (fun h9 => rfl))) (fun h8 => rfl)))) (fun h7 => rfl))) (fun h6 => rfl))) (fun h5 => rfl)))) (fun h4 => rfl))) (fun h3 => rfl))) (fun h2 => rfl)))) (fun h1 => rfl))) (fun h0 => rfl)))
set_option maxRecDepth 100000 in
set_option maxHeartbeats 4000000 in
theorem qm33l3 : ∀ m, SumKOk Tryd.prog (loopN Tryd.f33 3) 147 [0, 3, 8] [3] (q33l3 m) := by
  intro m
  induction m with
  | zero =>
    intro vals s x h1 h2 h3
    unfold q33l3 at h3; split at h3
    · rename_i h; split at h3
      · rename_i hc; obtain ⟨rfl, rfl, rfl, rfl, rfl, rfl, rfl⟩ := hc; exact absurd h3 (by simp [r33l3, firstT, Nat.beq])
      · exact noQ_ok _ _ _ h1 h2 h3
    · exact noQ_ok _ _ _ h1 h2 h3
  | succ m ih =>
    intro vals s x h1 h2 h3
    unfold q33l3 at h3; split at h3
    · rename_i h; split at h3
      · rename_i hc; obtain ⟨rfl, rfl, rfl, rfl, rfl, rfl, rfl⟩ := hc; exact sum_step ok24 extOk mixed (lok33_2.inner (by kernel_rfl)) ih h1 h2 h (e33l3 m _ _ _ _ _ _) rfl h3
      · exact noQ_ok _ _ _ h1 h2 h3
    · exact noQ_ok _ _ _ h1 h2 h3
noncomputable def Q33l3 : SumK := fun vals s => q33l3 (fuelOf vals s.h) vals s
theorem qok33l3 : SumKOk Tryd.prog (loopN Tryd.f33 3) 147 [0, 3, 8] [3] Q33l3 := fuel_ok qm33l3 fuelOf
noncomputable def L33_3 : LoopT := addL L33_2 18 ([0, 3, 8], []) (sumK 147 [0, 3, 8] [3] Q33l3)
theorem lok33_3 : LfOkF Tryd.prog L33_3 Tryd.f33 := lfOkF_add lok33_2 qok33l3 (by kernel_rfl) (by kernel_rfl) (by kernel_rfl)

/-- spec.l04Text -/
noncomputable def w33 {α : Type} (x0 x1 x2 x3 : List (List Int)) (k : (Nat × ByteArray) → α) : α :=
 let c229 := (r33l0 (1000 + x3.length + x2.length + x1.length + x0.length + 0) (ByteArray.mk #[]) 0 x0 x1 x2 x3)
 let c336 := (r33l1 (1000 + x3.length + x2.length + x1.length + x0.length + ((c229.2).size)) (c229.2) 0 x0 x1 x2 x3)
 let c375 := (r33l3 (1000 + x3.length + x2.length + x1.length + x0.length + ((c336.2).size)) (c336.2) 0 x0 x1 x2 x3)
 cond (Nat.beq (c229.1) 0)
  (cond (Nat.beq (c336.1) 0)
   (cond (Nat.beq (c375.1) 0)
    (k (0, (c375.2)))
    (k (1, ByteArray.empty)))
   (k (1, ByteArray.empty)))
  (k (1, ByteArray.empty))
noncomputable def r33 (x0 x1 x2 x3 : List (List Int)) : Nat × ByteArray := w33 x0 x1 x2 x3 (fun p => p)
noncomputable def g33 (x0 x1 x2 x3 : List (List Int)) (p : Nat × ByteArray) : List (Bool × Value × St) := [((Nat.beq (p.1) 0), .string (p.2), ⟨[⟨true, (some (.cells [wsl 1, wsl 2, wsl 3, wsl 4]))⟩, ⟨true, (some (.tab [.fl .f32] x0))⟩, ⟨true, (some (.tab [.fl .f32] x1))⟩, ⟨true, (some (.tab sc0 x2))⟩, ⟨true, (some (.tab sc1 x3))⟩], 5, []⟩)]
theorem p33 {α : Type} (x0 x1 x2 x3 : List (List Int)) (f : (Nat × ByteArray) → α) : w33 x0 x1 x2 x3 f = f (w33 x0 x1 x2 x3 (fun p => p)) := by unfold w33; exact (cond_app f _ (cond_app f _ (cond_app f _ rfl rfl) rfl) rfl)
set_option maxRecDepth 100000 in
set_option maxHeartbeats 4000000 in
theorem e33 (x0 x1 x2 x3 : List (List Int)) : evFn Tryd.prog ext T24 L33_3 200 Tryd.f33 [vp 0] ⟨[⟨true, (some (.cells [wsl 1, wsl 2, wsl 3, wsl 4]))⟩, ⟨true, (some (.tab [.fl .f32] x0))⟩, ⟨true, (some (.tab [.fl .f32] x1))⟩, ⟨true, (some (.tab sc0 x2))⟩, ⟨true, (some (.tab sc1 x3))⟩], 5, []⟩ = firstT (g33 x0 x1 x2 x3 (r33 x0 x1 x2 x3)) :=
 Eq.trans (by kernel_rfl) (p33 x0 x1 x2 x3 (fun p => firstT (g33 x0 x1 x2 x3 p)))
noncomputable def s33 (args : List Value) (s : St) : List (Bool × Value × St) :=
 match args, s.h with
 | [.pointer (some ⟨f0, f1, some f2⟩)], [⟨true, some (.cells [.iface f3 .nilIface, .iface f4 .nilIface, .iface f5 .nilIface, .iface f6 .nilIface])⟩, ⟨true, some (.tab [.fl .f32] x0)⟩, ⟨true, some (.tab [.fl .f32] x1)⟩, ⟨true, some (.tab [.int .i64, .int .i64, .fl .f32, .fl .f32, .fl .f32, .fl .f32, .fl .f32, .fl .f32] x2)⟩, ⟨true, some (.tab [.int .i64, .int .i64, .fl .f32, .fl .f32] x3)⟩] => if f0 = 0 ∧ f1 = 0 ∧ f2 = 0 ∧ f3 = 1 ∧ f4 = 2 ∧ f5 = 3 ∧ f6 = 4 then (g33 x0 x1 x2 x3 (r33 x0 x1 x2 x3)) else T24 33 args s
 | _, _ => T24 33 args s
noncomputable def T25 : CallF := addF T24 33 s33
set_option maxRecDepth 100000 in
set_option maxHeartbeats 4000000 in
theorem ok25 : CfOk Tryd.prog T25 := by
  refine cfOk_add ok24 fun args s r s' h1 h2 h3 => ?_
  unfold s33 at h3; split at h3
  · rename_i h; split at h3
    · rename_i hc; obtain ⟨rfl, rfl, rfl, rfl, rfl, rfl, rfl⟩ := hc; exact callOk ok24 Tryd.func33 h1 h2 h lok33_3.body (e33 _ _ _ _) rfl h3
    · exact ok24 _ _ _ _ _ h1 h2 h3
  · exact ok24 _ _ _ _ _ h1 h2 h3

/-- spec.FlatText -/
noncomputable def w11 {α : Type} (x0 x1 x2 x3 : List (List Int)) (k : (Nat × ByteArray) → α) : α :=
 cond (Nat.beq ((r32 x0 x1 x2 x3).1) 0)
  (cond (!((r32 x0 x1 x2 x3).2))
   (k (0, (ByteArray.mk #[])))
   (cond (Nat.beq ((r33 x0 x1 x2 x3).1) 0)
    (k (0, ((r33 x0 x1 x2 x3).2)))
    (k (1, ByteArray.empty))))
  (k (1, ByteArray.empty))
noncomputable def r11 (x0 x1 x2 x3 : List (List Int)) : Nat × ByteArray := w11 x0 x1 x2 x3 (fun p => p)
noncomputable def g11 (x0 x1 x2 x3 : List (List Int)) (p : Nat × ByteArray) : List (Bool × Value × St) := [((Nat.beq (p.1) 0), .string (p.2), ⟨[⟨true, (some (.tab [.fl .f32] x0))⟩, ⟨true, (some (.tab [.fl .f32] x1))⟩, ⟨true, (some (.tab sc0 x2))⟩, ⟨true, (some (.tab sc1 x3))⟩], 4, []⟩)]
theorem p11 {α : Type} (x0 x1 x2 x3 : List (List Int)) (f : (Nat × ByteArray) → α) : w11 x0 x1 x2 x3 f = f (w11 x0 x1 x2 x3 (fun p => p)) := by unfold w11; exact (cond_app f _ (cond_app f _ rfl (cond_app f _ rfl rfl)) rfl)
set_option maxRecDepth 100000 in
set_option maxHeartbeats 4000000 in
theorem e11 (x0 x1 x2 x3 : List (List Int)) : evFn Tryd.prog ext T25 noL 200 Tryd.f11 [.agg #[wsl 0, wsl 1, wsl 2, wsl 3]] ⟨[⟨true, (some (.tab [.fl .f32] x0))⟩, ⟨true, (some (.tab [.fl .f32] x1))⟩, ⟨true, (some (.tab sc0 x2))⟩, ⟨true, (some (.tab sc1 x3))⟩], 4, []⟩ = firstT (g11 x0 x1 x2 x3 (r11 x0 x1 x2 x3)) :=
 Eq.trans (by kernel_rfl) (p11 x0 x1 x2 x3 (fun p => firstT (g11 x0 x1 x2 x3 p)))
noncomputable def s11 (args : List Value) (s : St) : List (Bool × Value × St) :=
 match args, s.h with
 | [.agg ⟨[.iface f0 .nilIface, .iface f1 .nilIface, .iface f2 .nilIface, .iface f3 .nilIface]⟩], [⟨true, some (.tab [.fl .f32] x0)⟩, ⟨true, some (.tab [.fl .f32] x1)⟩, ⟨true, some (.tab [.int .i64, .int .i64, .fl .f32, .fl .f32, .fl .f32, .fl .f32, .fl .f32, .fl .f32] x2)⟩, ⟨true, some (.tab [.int .i64, .int .i64, .fl .f32, .fl .f32] x3)⟩] => if f0 = 0 ∧ f1 = 1 ∧ f2 = 2 ∧ f3 = 3 then (g11 x0 x1 x2 x3 (r11 x0 x1 x2 x3)) else T25 11 args s
 | _, _ => T25 11 args s
noncomputable def T26 : CallF := addF T25 11 s11
set_option maxRecDepth 100000 in
set_option maxHeartbeats 4000000 in
theorem ok26 : CfOk Tryd.prog T26 := by
  refine cfOk_add ok25 fun args s r s' h1 h2 h3 => ?_
  unfold s11 at h3; split at h3
  · rename_i h; split at h3
    · rename_i hc; obtain ⟨rfl, rfl, rfl, rfl⟩ := hc; exact callOk ok25 Tryd.func11 h1 h2 h (lfOkF_no _ _).body (e11 _ _ _ _) rfl h3
    · exact ok25 _ _ _ _ _ h1 h2 h3
  · exact ok25 _ _ _ _ _ h1 h2 h3

/-- impl.between -/
noncomputable def w69 {α : Type} (x0 x1 x2 : Nat) (k : Bool → α) : α :=
 cond (fgt .f32 x0 x1 || feq .f32 x0 x1)
  (k ((flt .f32 x0 x2 || feq .f32 x0 x2)))
  (k (false))
noncomputable def r69 (x0 x1 x2 : Nat) : Bool := w69 x0 x1 x2 (fun p => p)
noncomputable def g69 (x0 x1 x2 : Nat) (p : Bool) : List (Bool × Value × St) := [(true, .bool p, st0)]
theorem p69 {α : Type} (x0 x1 x2 : Nat) (f : Bool → α) : w69 x0 x1 x2 f = f (w69 x0 x1 x2 (fun p => p)) := by unfold w69; exact (cond_app f _ rfl rfl)
set_option maxRecDepth 100000 in
set_option maxHeartbeats 4000000 in
theorem e69 (x0 x1 x2 : Nat) : evFn Tryd.prog ext T26 noL 200 Tryd.f69 [vf x0, vf x1, vf x2] st0 = firstT (g69 x0 x1 x2 (r69 x0 x1 x2)) :=
 Eq.trans (by kernel_rfl) (p69 x0 x1 x2 (fun p => firstT (g69 x0 x1 x2 p)))
noncomputable def s69 (args : List Value) (s : St) : List (Bool × Value × St) :=
 match args, s.h with
 | [.float .f32 x0, .float .f32 x1, .float .f32 x2], [] => (g69 x0 x1 x2 (r69 x0 x1 x2))
 | _, _ => T26 69 args s
noncomputable def T27 : CallF := addF T26 69 s69
set_option maxRecDepth 100000 in
set_option maxHeartbeats 4000000 in
theorem ok27 : CfOk Tryd.prog T27 := by
  refine cfOk_add ok26 fun args s r s' h1 h2 h3 => ?_
  unfold s69 at h3; split at h3
  · rename_i h; exact callOk ok26 Tryd.func69 h1 h2 h (lfOkF_no _ _).body (e69 _ _ _) rfl h3
  · exact ok26 _ _ _ _ _ h1 h2 h3

/-- impl.isHeat -/
noncomputable def w65 {α : Type} (x0 : Nat) (k : Bool → α) : α :=
 k ((r69 x0 3262119936 1128792064))
noncomputable def r65 (x0 : Nat) : Bool := w65 x0 (fun p => p)
noncomputable def g65 (x0 : Nat) (p : Bool) : List (Bool × Value × St) := [(true, .bool p, st0)]
theorem p65 {α : Type} (x0 : Nat) (f : Bool → α) : w65 x0 f = f (w65 x0 (fun p => p)) := by unfold w65; exact rfl
set_option maxRecDepth 100000 in
set_option maxHeartbeats 4000000 in
theorem e65 (x0 : Nat) : evFn Tryd.prog ext T27 noL 200 Tryd.f65 [vf x0] st0 = firstT (g65 x0 (r65 x0)) :=
 Eq.trans (by kernel_rfl) (p65 x0 (fun p => firstT (g65 x0 p)))
noncomputable def s65 (args : List Value) (s : St) : List (Bool × Value × St) :=
 match args, s.h with
 | [.float .f32 x0], [] => (g65 x0 (r65 x0))
 | _, _ => T27 65 args s
noncomputable def T28 : CallF := addF T27 65 s65
set_option maxRecDepth 100000 in
set_option maxHeartbeats 4000000 in
theorem ok28 : CfOk Tryd.prog T28 := by
  refine cfOk_add ok27 fun args s r s' h1 h2 h3 => ?_
  unfold s65 at h3; split at h3
  · rename_i h; exact callOk ok27 Tryd.func65 h1 h2 h (lfOkF_no _ _).body (e65 _) rfl h3
  · exact ok27 _ _ _ _ _ h1 h2 h3

/-- math.IsNaN -/
noncomputable def w81 {α : Type} (x0 : Nat) (k : Bool → α) : α :=
 k ((!feq .f64 x0 x0))
noncomputable def r81 (x0 : Nat) : Bool := w81 x0 (fun p => p)
noncomputable def g81 (x0 : Nat) (p : Bool) : List (Bool × Value × St) := [(true, .bool p, st0)]
theorem p81 {α : Type} (x0 : Nat) (f : Bool → α) : w81 x0 f = f (w81 x0 (fun p => p)) := by unfold w81; exact rfl
set_option maxRecDepth 100000 in
set_option maxHeartbeats 4000000 in
theorem e81 (x0 : Nat) : evFn Tryd.prog ext T28 noL 200 Tryd.f81 [.float .f64 x0] st0 = firstT (g81 x0 (r81 x0)) :=
 Eq.trans (by kernel_rfl) (p81 x0 (fun p => firstT (g81 x0 p)))
noncomputable def s81 (args : List Value) (s : St) : List (Bool × Value × St) :=
 match args, s.h with
 | [.float .f64 x0], [] => (g81 x0 (r81 x0))
 | _, _ => T28 81 args s
noncomputable def T29 : CallF := addF T28 81 s81
set_option maxRecDepth 100000 in
set_option maxHeartbeats 4000000 in
theorem ok29 : CfOk Tryd.prog T29 := by
  refine cfOk_add ok28 fun args s r s' h1 h2 h3 => ?_
  unfold s81 at h3; split at h3
  · rename_i h; exact callOk ok28 Tryd.func81 h1 h2 h (lfOkF_no _ _).body (e81 _) rfl h3
  · exact ok28 _ _ _ _ _ h1 h2 h3

/-- math.Abs -/
noncomputable def w91 {α : Type} (x0 : Nat) (k : Nat → α) : α :=
 cond (!isN .f64 x0)
  (k ((Int.toNat (bits .andNot .u64 ((x0 : Nat) : Int) 9223372036854775808))))
  (k (9221120237041090560))
noncomputable def r91 (x0 : Nat) : Nat := w91 x0 (fun p => p)
noncomputable def g91 (x0 : Nat) (p : Nat) : List (Bool × Value × St) := [(true, .float .f64 p, st0)]
theorem p91 {α : Type} (x0 : Nat) (f : Nat → α) : w91 x0 f = f (w91 x0 (fun p => p)) := by unfold w91; exact (cond_app f _ rfl rfl)
set_option maxRecDepth 100000 in
set_option maxHeartbeats 4000000 in
theorem e91 (x0 : Nat) : evFn Tryd.prog ext T29 noL 200 Tryd.f91 [.float .f64 x0] st0 = firstT (g91 x0 (r91 x0)) :=
 Eq.trans (by kernel_rfl) (p91 x0 (fun p => firstT (g91 x0 p)))
noncomputable def s91 (args : List Value) (s : St) : List (Bool × Value × St) :=
 match args, s.h with
 | [.float .f64 x0], [] => (g91 x0 (r91 x0))
 | _, _ => T29 91 args s
noncomputable def T30 : CallF := addF T29 91 s91
set_option maxRecDepth 100000 in
set_option maxHeartbeats 4000000 in
theorem ok30 : CfOk Tryd.prog T30 := by
  refine cfOk_add ok29 fun args s r s' h1 h2 h3 => ?_
  unfold s91 at h3; split at h3
  · rename_i h; exact callOk ok29 Tryd.func91 h1 h2 h (lfOkF_no _ _).body (e91 _) rfl h3
  · exact ok29 _ _ _ _ _ h1 h2 h3

/-- math.IsInf -/
noncomputable def w82 {α : Type} (x0 : Nat) (x1 : Int) (k : Bool → α) : α :=
 cond ((x1 : Int) == 0)
  (k ((fgt .f64 (r91 x0) 9218868437227405311)))
  (cond (decide ((x1 : Int) < 0))
   (k ((fgt .f64 (fneg .f64 x0) 9218868437227405311)))
   (k ((fgt .f64 x0 9218868437227405311))))
noncomputable def r82 (x0 : Nat) (x1 : Int) : Bool := w82 x0 x1 (fun p => p)
noncomputable def g82 (x0 : Nat) (x1 : Int) (p : Bool) : List (Bool × Value × St) := [(true, .bool p, st0)]
theorem p82 {α : Type} (x0 : Nat) (x1 : Int) (f : Bool → α) : w82 x0 x1 f = f (w82 x0 x1 (fun p => p)) := by unfold w82; exact (cond_app f _ rfl (cond_app f _ rfl rfl))
set_option maxRecDepth 100000 in
set_option maxHeartbeats 4000000 in
theorem e82 (x0 : Nat) (x1 : Int) : evFn Tryd.prog ext T30 noL 200 Tryd.f82 [.float .f64 x0, vi x1] st0 = firstT (g82 x0 x1 (r82 x0 x1)) :=
 Eq.trans (by kernel_rfl) (p82 x0 x1 (fun p => firstT (g82 x0 x1 p)))
noncomputable def s82 (args : List Value) (s : St) : List (Bool × Value × St) :=
 match args, s.h with
 | [.float .f64 x0, .int .i64 x1], [] => (g82 x0 x1 (r82 x0 x1))
 | _, _ => T30 82 args s
noncomputable def T31 : CallF := addF T30 82 s82
set_option maxRecDepth 100000 in
set_option maxHeartbeats 4000000 in
theorem ok31 : CfOk Tryd.prog T31 := by
  refine cfOk_add ok30 fun args s r s' h1 h2 h3 => ?_
  unfold s82 at h3; split at h3
  · rename_i h; exact callOk ok30 Tryd.func82 h1 h2 h (lfOkF_no _ _).body (e82 _ _) rfl h3
  · exact ok30 _ _ _ _ _ h1 h2 h3

/-- impl.isFinite -/
noncomputable def w51 {α : Type} (x0 : Nat) (k : Bool → α) : α :=
 cond (r81 (widen x0))
  (k (false))
  (cond (r82 (widen x0) 0)
   (k (false))
   (k (true)))
noncomputable def r51 (x0 : Nat) : Bool := w51 x0 (fun p => p)
noncomputable def g51 (x0 : Nat) (p : Bool) : List (Bool × Value × St) := [(true, .bool p, ⟨[⟨true, (some (.tab [.fl .f32] ([[((x0 : Nat) : Int)]] : List (List Int))))⟩], 1, []⟩)]
theorem p51 {α : Type} (x0 : Nat) (f : Bool → α) : w51 x0 f = f (w51 x0 (fun p => p)) := by unfold w51; exact (cond_app f _ rfl (cond_app f _ rfl rfl))
set_option maxRecDepth 100000 in
set_option maxHeartbeats 4000000 in
theorem e51 (x0 : Nat) : evFn Tryd.prog ext T31 noL 200 Tryd.f51 [.slice (some ⟨0, 0, some 0⟩) 1 1] ⟨[⟨true, (some (.tab [.fl .f32] ([[((x0 : Nat) : Int)]] : List (List Int))))⟩], 1, []⟩ = firstT (g51 x0 (r51 x0)) :=
 Eq.trans (by kernel_rfl) (p51 x0 (fun p => firstT (g51 x0 p)))
noncomputable def s51 (args : List Value) (s : St) : List (Bool × Value × St) :=
 match args, s.h with
 | [.slice (some ⟨f0, f1, some f2⟩) f3 f4], [⟨true, some (.tab [.fl .f32] [[.ofNat x0]])⟩] => if f0 = 0 ∧ f1 = 0 ∧ f2 = 0 ∧ f3 = 1 ∧ f4 = 1 then (g51 x0 (r51 x0)) else T31 51 args s
 | _, _ => T31 51 args s
noncomputable def T32 : CallF := addF T31 51 s51
set_option maxRecDepth 100000 in
set_option maxHeartbeats 4000000 in
theorem ok32 : CfOk Tryd.prog T32 := by
  refine cfOk_add ok31 fun args s r s' h1 h2 h3 => ?_
  unfold s51 at h3; split at h3
  · rename_i h; split at h3
    · rename_i hc; obtain ⟨rfl, rfl, rfl, rfl, rfl⟩ := hc; exact callOk ok31 Tryd.func51 h1 h2 h (lfOkF_no _ _).body (e51 _) rfl h3
    · exact ok31 _ _ _ _ _ h1 h2 h3
  · exact ok31 _ _ _ _ _ h1 h2 h3

/-- impl.IsAmount -/
noncomputable def r68 (x0 : Nat) : Bool :=
 cond (r51 x0)
  (cond (fgt .f32 x0 0 || feq .f32 x0 0)
   ((((Int.fdiv ((x0 : Nat) : Int) (2 ^ (min (31 : Int).toNat (IntKind.bits .u32)))) : Int) == 0))
   (false))
  (false)
noncomputable def a68 (x0 : Nat) (p : Bool) : Res := firstT [(true, .bool p, st0)]
noncomputable def w68 (x0 : Nat) : Res :=
 (cond (r51 x0)
 (cond (fgt .f32 x0 0 || feq .f32 x0 0)
  (cond (!isN .f32 x0)
   (a68 x0 ((((Int.fdiv ((x0 : Nat) : Int) (2 ^ (min (31 : Int).toNat (IntKind.bits .u32)))) : Int) == 0)))
   none)
  (a68 x0 (false)))
 (a68 x0 (false)))
set_option maxRecDepth 100000 in
set_option maxHeartbeats 4000000 in
theorem e68 (x0 : Nat) : evFn Tryd.prog ext T32 noL 200 Tryd.f68 [vf x0] st0 = firstT [(true, .bool (r68 x0), st0)] :=
 (show evFn Tryd.prog ext T32 noL 200 Tryd.f68 [vf x0] st0 = w68 x0 from by kernel_rfl).trans
 (show w68 x0 = a68 x0 (r68 x0) from by unfold w68 r68; exact (cond_both (a68 x0) _ (fun h0 => (cond_both (a68 x0) _ (fun h1 => (cond_t (ev_not1 (ev_or h1 (fun hq0 => (ev_gt1 hq0)) (fun hq0 => (ev_eq1 hq0)))) rfl)) (fun h1 => rfl))) (fun h0 => rfl)))
noncomputable def s68 (args : List Value) (s : St) : List (Bool × Value × St) :=
 match args, s.h with
 | [.float .f32 x0], [] => [(true, .bool (r68 x0), st0)]
 | _, _ => T32 68 args s
noncomputable def T33 : CallF := addF T32 68 s68
set_option maxRecDepth 100000 in
set_option maxHeartbeats 4000000 in
theorem ok33 : CfOk Tryd.prog T33 := by
  refine cfOk_add ok32 fun args s r s' h1 h2 h3 => ?_
  unfold s68 at h3; split at h3
  · rename_i h; exact callOk ok32 Tryd.func68 h1 h2 h (lfOkF_no _ _).body (e68 _) rfl h3
  · exact ok32 _ _ _ _ _ h1 h2 h3

/-- impl.isStore -/
noncomputable def w66 {α : Type} (x0 : Nat) (k : Bool → α) : α :=
 cond (r68 x0)
  (k ((r69 x0 1065353216 1176256512)))
  (k (false))
noncomputable def r66 (x0 : Nat) : Bool := w66 x0 (fun p => p)
noncomputable def g66 (x0 : Nat) (p : Bool) : List (Bool × Value × St) := [(true, .bool p, st0)]
theorem p66 {α : Type} (x0 : Nat) (f : Bool → α) : w66 x0 f = f (w66 x0 (fun p => p)) := by unfold w66; exact (cond_app f _ rfl rfl)
set_option maxRecDepth 100000 in
set_option maxHeartbeats 4000000 in
theorem e66 (x0 : Nat) : evFn Tryd.prog ext T33 noL 200 Tryd.f66 [vf x0] st0 = firstT (g66 x0 (r66 x0)) :=
 Eq.trans (by kernel_rfl) (p66 x0 (fun p => firstT (g66 x0 p)))
noncomputable def s66 (args : List Value) (s : St) : List (Bool × Value × St) :=
 match args, s.h with
 | [.float .f32 x0], [] => (g66 x0 (r66 x0))
 | _, _ => T33 66 args s
noncomputable def T34 : CallF := addF T33 66 s66
set_option maxRecDepth 100000 in
set_option maxHeartbeats 4000000 in
theorem ok34 : CfOk Tryd.prog T34 := by
  refine cfOk_add ok33 fun args s r s' h1 h2 h3 => ?_
  unfold s66 at h3; split at h3
  · rename_i h; exact callOk ok33 Tryd.func66 h1 h2 h (lfOkF_no _ _).body (e66 _) rfl h3
  · exact ok33 _ _ _ _ _ h1 h2 h3

/-- impl.ValidFlat, loop 0: one round -/
noncomputable def b37l0 (ih : Int → Int → Int → List (List Int) → List (List Int) → List (List Int) → List (List Int) → Nat) (x0 x1 x2 : Int) (x3 x4 x5 x6 : List (List Int)) : Nat :=
 let c409 := (r65 (Int.toNat ((x3.getD (Int.toNat x2) []).getD 0 0)))
 let c410 := (r66 (Int.toNat ((x4.getD (Int.toNat x2) []).getD 0 0)))
 cond (decide ((x2 : Int) < x1))
  (cond ((decide ((0 : Int) ≤ x2)) && (Nat.blt (Int.toNat x2) x3.length))
   (cond (!c409)
    (0)
    (cond ((decide ((0 : Int) ≤ x2)) && (Nat.blt (Int.toNat x2) x4.length))
     (cond (!c410)
      (0)
      (ih x0 x1 (IntKind.i64.wrap (x2 + 1)) x3 x4 x5 x6))
     (2)))
   (2))
  (1)
noncomputable def r37l0 : Nat → Int → Int → Int → List (List Int) → List (List Int) → List (List Int) → List (List Int) → Nat
 | 0 => fun _ _ _ _ _ _ _ => (2)
 | m + 1 => b37l0 (r37l0 m)
noncomputable def a37l0 (x0 x1 x2 : Int) (x3 x4 x5 x6 : List (List Int)) (p : Nat) : Option (Fin' × List Value × St) := firstT ([((Nat.beq p 0), .ret, [vp 0, .bool false, vi x0], ⟨[⟨true, (some (.cells [wsl 1, wsl 2, wsl 3, wsl 4]))⟩, ⟨true, (some (.tab [.fl .f32] x3))⟩, ⟨true, (some (.tab [.fl .f32] x4))⟩, ⟨true, (some (.tab sc0 x5))⟩, ⟨true, (some (.tab sc1 x6))⟩], 5, []⟩), ((Nat.beq p 1), .exit 0, [vp 0, anyV, vi x0], ⟨[⟨true, (some (.cells [wsl 1, wsl 2, wsl 3, wsl 4]))⟩, ⟨true, (some (.tab [.fl .f32] x3))⟩, ⟨true, (some (.tab [.fl .f32] x4))⟩, ⟨true, (some (.tab sc0 x5))⟩, ⟨true, (some (.tab sc1 x6))⟩], 5, []⟩)].map fun (b, x) => (b, (x.1, frameOf 129 [1, 2, 3] x.2.1, x.2.2)))
noncomputable def u37l0 (x0 x1 x2 : Int) (x3 x4 x5 x6 : List (List Int)) (p : Nat) : Option (Fin' × List Value × St) := alts ([((Nat.beq p 0), .ret, [vp 0, .bool false, vi x0], ⟨[⟨true, (some (.cells [wsl 1, wsl 2, wsl 3, wsl 4]))⟩, ⟨true, (some (.tab [.fl .f32] x3))⟩, ⟨true, (some (.tab [.fl .f32] x4))⟩, ⟨true, (some (.tab sc0 x5))⟩, ⟨true, (some (.tab sc1 x6))⟩], 5, []⟩), ((Nat.beq p 1), .exit 0, [vp 0, anyV, vi x0], ⟨[⟨true, (some (.cells [wsl 1, wsl 2, wsl 3, wsl 4]))⟩, ⟨true, (some (.tab [.fl .f32] x3))⟩, ⟨true, (some (.tab [.fl .f32] x4))⟩, ⟨true, (some (.tab sc0 x5))⟩, ⟨true, (some (.tab sc1 x6))⟩], 5, []⟩)].map fun (b, x) => (b, (x.1, frameOf 129 [1, 2, 3] x.2.1, x.2.2))) some
theorem v37l0 (x0 x1 x2 : Int) (x3 x4 x5 x6 : List (List Int)) (p : Nat) : u37l0 x0 x1 x2 x3 x4 x5 x6 p = a37l0 x0 x1 x2 x3 x4 x5 x6 p := alts_first _
noncomputable def q37l0 (m : Nat) : SumK := fun vals s =>
 match vals, s.h with
 | [.pointer (some ⟨f0, f1, some f2⟩), .int .i64 x0, .int .i64 x1, .int .i64 x2], [⟨true, some (.cells [.iface f3 .nilIface, .iface f4 .nilIface, .iface f5 .nilIface, .iface f6 .nilIface])⟩, ⟨true, some (.tab [.fl .f32] x3)⟩, ⟨true, some (.tab [.fl .f32] x4)⟩, ⟨true, some (.tab [.int .i64, .int .i64, .fl .f32, .fl .f32, .fl .f32, .fl .f32, .fl .f32, .fl .f32] x5)⟩, ⟨true, some (.tab [.int .i64, .int .i64, .fl .f32, .fl .f32] x6)⟩] => if f0 = 0 ∧ f1 = 0 ∧ f2 = 0 ∧ f3 = 1 ∧ f4 = 2 ∧ f5 = 3 ∧ f6 = 4 then [((Nat.beq (r37l0 m x0 x1 x2 x3 x4 x5 x6) 0), .ret, [vp 0, .bool false, vi x0], ⟨[⟨true, (some (.cells [wsl 1, wsl 2, wsl 3, wsl 4]))⟩, ⟨true, (some (.tab [.fl .f32] x3))⟩, ⟨true, (some (.tab [.fl .f32] x4))⟩, ⟨true, (some (.tab sc0 x5))⟩, ⟨true, (some (.tab sc1 x6))⟩], 5, []⟩), ((Nat.beq (r37l0 m x0 x1 x2 x3 x4 x5 x6) 1), .exit 0, [vp 0, anyV, vi x0], ⟨[⟨true, (some (.cells [wsl 1, wsl 2, wsl 3, wsl 4]))⟩, ⟨true, (some (.tab [.fl .f32] x3))⟩, ⟨true, (some (.tab [.fl .f32] x4))⟩, ⟨true, (some (.tab sc0 x5))⟩, ⟨true, (some (.tab sc1 x6))⟩], 5, []⟩)] else noQ vals s
 | _, _ => noQ vals s
noncomputable def w37l0 (ih : Int → Int → Int → List (List Int) → List (List Int) → List (List Int) → List (List Int) → Nat) (x0 x1 x2 : Int) (x3 x4 x5 x6 : List (List Int)) : Option (Fin' × List Value × St) :=
 let c409 := (r65 (Int.toNat ((x3.getD (Int.toNat x2) []).getD 0 0)))
 let c410 := (r66 (Int.toNat ((x4.getD (Int.toNat x2) []).getD 0 0)))
 (cond (decide ((x2 : Int) < x1))
 (cond ((decide ((0 : Int) ≤ x2)) && (Nat.blt (Int.toNat x2) x3.length))
  (cond (Nat.blt (Int.toNat x2) x3.length)
   (cond (!c409)
    (a37l0 x0 x1 x2 x3 x4 x5 x6 (0))
    (cond ((decide ((0 : Int) ≤ x2)) && (Nat.blt (Int.toNat x2) x4.length))
     (cond (Nat.blt (Int.toNat x2) x4.length)
      (cond (!c410)
       (a37l0 x0 x1 x2 x3 x4 x5 x6 (0))
       (u37l0 x0 x1 x2 x3 x4 x5 x6 (ih x0 x1 (IntKind.i64.wrap (x2 + 1)) x3 x4 x5 x6)))
      none)
     none))
   none)
  none)
 (a37l0 x0 x1 x2 x3 x4 x5 x6 (1)))
set_option maxRecDepth 100000 in
set_option maxHeartbeats 4000000 in
theorem e37l0 (m : Nat) (x0 x1 x2 : Int) (x3 x4 x5 x6 : List (List Int)) : evC Tryd.prog ext T34 noL 200 (loopN Tryd.f37 0) (loopTail ([1, 3, 39, 40], []) [1, 2, 3] [] (sumK 129 [1, 3, 39, 40] [1, 2, 3] (q37l0 m))) (frameOf 129 [1, 3, 39, 40] [vp 0, vi x0, vi x1, vi x2]) ⟨[⟨true, (some (.cells [wsl 1, wsl 2, wsl 3, wsl 4]))⟩, ⟨true, (some (.tab [.fl .f32] x3))⟩, ⟨true, (some (.tab [.fl .f32] x4))⟩, ⟨true, (some (.tab sc0 x5))⟩, ⟨true, (some (.tab sc1 x6))⟩], 5, []⟩ = firstT ([((Nat.beq (r37l0 (m + 1) x0 x1 x2 x3 x4 x5 x6) 0), .ret, [vp 0, .bool false, vi x0], ⟨[⟨true, (some (.cells [wsl 1, wsl 2, wsl 3, wsl 4]))⟩, ⟨true, (some (.tab [.fl .f32] x3))⟩, ⟨true, (some (.tab [.fl .f32] x4))⟩, ⟨true, (some (.tab sc0 x5))⟩, ⟨true, (some (.tab sc1 x6))⟩], 5, []⟩), ((Nat.beq (r37l0 (m + 1) x0 x1 x2 x3 x4 x5 x6) 1), .exit 0, [vp 0, anyV, vi x0], ⟨[⟨true, (some (.cells [wsl 1, wsl 2, wsl 3, wsl 4]))⟩, ⟨true, (some (.tab [.fl .f32] x3))⟩, ⟨true, (some (.tab [.fl .f32] x4))⟩, ⟨true, (some (.tab sc0 x5))⟩, ⟨true, (some (.tab sc1 x6))⟩], 5, []⟩)].map fun (b, x) => (b, (x.1, frameOf 129 [1, 2, 3] x.2.1, x.2.2))) :=
 (show evC Tryd.prog ext T34 noL 200 (loopN Tryd.f37 0) (loopTail ([1, 3, 39, 40], []) [1, 2, 3] [] (sumK 129 [1, 3, 39, 40] [1, 2, 3] (q37l0 m))) (frameOf 129 [1, 3, 39, 40] [vp 0, vi x0, vi x1, vi x2]) ⟨[⟨true, (some (.cells [wsl 1, wsl 2, wsl 3, wsl 4]))⟩, ⟨true, (some (.tab [.fl .f32] x3))⟩, ⟨true, (some (.tab [.fl .f32] x4))⟩, ⟨true, (some (.tab sc0 x5))⟩, ⟨true, (some (.tab sc1 x6))⟩], 5, []⟩ = w37l0 (r37l0 m) x0 x1 x2 x3 x4 x5 x6 from by kernel_rfl).trans
 (show w37l0 (r37l0 m) x0 x1 x2 x3 x4 x5 x6 = a37l0 x0 x1 x2 x3 x4 x5 x6 (r37l0 (m + 1) x0 x1 x2 x3 x4 x5 x6) from by unfold w37l0; show _ = a37l0 x0 x1 x2 x3 x4 x5 x6 (b37l0 (r37l0 m) x0 x1 x2 x3 x4 x5 x6); unfold b37l0; exact (cond_both (a37l0 x0 x1 x2 x3 x4 x5 x6) _ (fun h0 => (cond_both (a37l0 x0 x1 x2 x3 x4 x5 x6) _ (fun h1 => (cond_t (ev_and2 h1) (cond_both (a37l0 x0 x1 x2 x3 x4 x5 x6) _ (fun h2 => rfl) (fun h2 => (cond_both (a37l0 x0 x1 x2 x3 x4 x5 x6) _ (fun h3 => (cond_t (ev_and2 h3) (cond_app (a37l0 x0 x1 x2 x3 x4 x5 x6) _ rfl (v37l0 x0 x1 x2 x3 x4 x5 x6 ((r37l0 m) x0 x1 (IntKind.i64.wrap (x2 + 1)) x3 x4 x5 x6))))) (fun h3 => rfl)))))) (fun h1 => rfl))) (fun h0 => rfl)))
set_option maxRecDepth 100000 in
set_option maxHeartbeats 4000000 in
theorem qm37l0 : ∀ m, SumKOk Tryd.prog (loopN Tryd.f37 0) 129 [1, 3, 39, 40] [1, 2, 3] (q37l0 m) := by
  intro m
  induction m with
  | zero =>
    intro vals s x h1 h2 h3
    unfold q37l0 at h3; split at h3
    · rename_i h; split at h3
      · rename_i hc; obtain ⟨rfl, rfl, rfl, rfl, rfl, rfl, rfl⟩ := hc; exact absurd h3 (by simp [r37l0, firstT, Nat.beq])
      · exact noQ_ok _ _ _ h1 h2 h3
    · exact noQ_ok _ _ _ h1 h2 h3
  | succ m ih =>
    intro vals s x h1 h2 h3
    unfold q37l0 at h3; split at h3
    · rename_i h; split at h3
      · rename_i hc; obtain ⟨rfl, rfl, rfl, rfl, rfl, rfl, rfl⟩ := hc; exact sum_step ok34 extOk mixed ((lfOkF_no _ _).inner (by kernel_rfl)) ih h1 h2 h (e37l0 m _ _ _ _ _ _ _) rfl h3
      · exact noQ_ok _ _ _ h1 h2 h3
    · exact noQ_ok _ _ _ h1 h2 h3
noncomputable def Q37l0 : SumK := fun vals s => q37l0 (fuelOf vals s.h) vals s
theorem qok37l0 : SumKOk Tryd.prog (loopN Tryd.f37 0) 129 [1, 3, 39, 40] [1, 2, 3] Q37l0 := fuel_ok qm37l0 fuelOf
noncomputable def L37_1 : LoopT := addL noL 6 ([1, 3, 39, 40], []) (sumK 129 [1, 3, 39, 40] [1, 2, 3] Q37l0)
theorem lok37_1 : LfOkF Tryd.prog L37_1 Tryd.f37 := lfOkF_add (lfOkF_no _ _) qok37l0 (by kernel_rfl) (by kernel_rfl) (by kernel_rfl)

/-- impl.stands -/
noncomputable def w67 {α : Type} (x0 x1 x2 : Int) (k : Bool → α) : α :=
 cond (decide ((x0 : Int) ≥ 0))
  (cond (decide ((x0 : Int) < x2))
   (cond (decide ((x1 : Int) ≥ (-1)))
    (cond (decide ((x1 : Int) < x2))
     (k (((x0 : Int) != x1)))
     (k (false)))
    (k (false)))
   (k (false)))
  (k (false))
noncomputable def r67 (x0 x1 x2 : Int) : Bool := w67 x0 x1 x2 (fun p => p)
noncomputable def g67 (x0 x1 x2 : Int) (p : Bool) : List (Bool × Value × St) := [(true, .bool p, st0)]
theorem p67 {α : Type} (x0 x1 x2 : Int) (f : Bool → α) : w67 x0 x1 x2 f = f (w67 x0 x1 x2 (fun p => p)) := by unfold w67; exact (cond_app f _ (cond_app f _ (cond_app f _ (cond_app f _ rfl rfl) rfl) rfl) rfl)
set_option maxRecDepth 100000 in
set_option maxHeartbeats 4000000 in
theorem e67 (x0 x1 x2 : Int) : evFn Tryd.prog ext T34 noL 200 Tryd.f67 [vi x0, vi x1, vi x2] st0 = firstT (g67 x0 x1 x2 (r67 x0 x1 x2)) :=
 Eq.trans (by kernel_rfl) (p67 x0 x1 x2 (fun p => firstT (g67 x0 x1 x2 p)))
noncomputable def s67 (args : List Value) (s : St) : List (Bool × Value × St) :=
 match args, s.h with
 | [.int .i64 x0, .int .i64 x1, .int .i64 x2], [] => (g67 x0 x1 x2 (r67 x0 x1 x2))
 | _, _ => T34 67 args s
noncomputable def T35 : CallF := addF T34 67 s67
set_option maxRecDepth 100000 in
set_option maxHeartbeats 4000000 in
theorem ok35 : CfOk Tryd.prog T35 := by
  refine cfOk_add ok34 fun args s r s' h1 h2 h3 => ?_
  unfold s67 at h3; split at h3
  · rename_i h; exact callOk ok34 Tryd.func67 h1 h2 h (lfOkF_no _ _).body (e67 _ _ _) rfl h3
  · exact ok34 _ _ _ _ _ h1 h2 h3

/-- impl.ValidFlat, loop 1: one round -/
noncomputable def b37l1 (ih : Int → Int → Int → List (List Int) → List (List Int) → List (List Int) → List (List Int) → Nat) (x0 x1 x2 : Int) (x3 x4 x5 x6 : List (List Int)) : Nat :=
 let c540 := (r67 ((x3.getD (Int.toNat x2) []).getD 0 0) ((x3.getD (Int.toNat x2) []).getD 1 0) x0)
 let c541 := (r68 (Int.toNat ((x3.getD (Int.toNat x2) []).getD 2 0)))
 let c542 := (r69 (Int.toNat ((x3.getD (Int.toNat x2) []).getD 2 0)) 1015021568 1120403456)
 let c543 := (r66 (Int.toNat ((x3.getD (Int.toNat x2) []).getD 3 0)))
 let c544 := (r65 (Int.toNat ((x3.getD (Int.toNat x2) []).getD 4 0)))
 let c545 := (r65 (Int.toNat ((x3.getD (Int.toNat x2) []).getD 5 0)))
 let c546 := (r65 (Int.toNat ((x3.getD (Int.toNat x2) []).getD 6 0)))
 let c547 := (r65 (Int.toNat ((x3.getD (Int.toNat x2) []).getD 7 0)))
 cond (decide ((x2 : Int) < x1))
  (cond ((decide ((0 : Int) ≤ x2)) && (Nat.blt (Int.toNat x2) x3.length))
   (cond (!c540)
    (0)
    (cond (!c541)
     (0)
     (cond (!c542)
      (0)
      (cond (!c543)
       (0)
       (cond (!c544)
        (0)
        (cond (!c545)
         (0)
         (cond (!c546)
          (0)
          (cond (!c547)
           (0)
           (ih x0 x1 (IntKind.i64.wrap (x2 + 1)) x3 x4 x5 x6)))))))))
   (2))
  (1)
noncomputable def r37l1 : Nat → Int → Int → Int → List (List Int) → List (List Int) → List (List Int) → List (List Int) → Nat
 | 0 => fun _ _ _ _ _ _ _ => (2)
 | m + 1 => b37l1 (r37l1 m)
noncomputable def a37l1 (x0 x1 x2 : Int) (x3 x4 x5 x6 : List (List Int)) (p : Nat) : Option (Fin' × List Value × St) := firstT ([((Nat.beq p 0), .ret, [vp 0, .bool false, vi x0], ⟨[⟨true, (some (.cells [wsl 2, wsl 3, wsl 1, wsl 4]))⟩, ⟨true, (some (.tab sc0 x3))⟩, ⟨true, (some (.tab [.fl .f32] x4))⟩, ⟨true, (some (.tab [.fl .f32] x5))⟩, ⟨true, (some (.tab sc1 x6))⟩], 5, []⟩), ((Nat.beq p 1), .exit 2, [vp 0, anyV, vi x0], ⟨[⟨true, (some (.cells [wsl 2, wsl 3, wsl 1, wsl 4]))⟩, ⟨true, (some (.tab sc0 x3))⟩, ⟨true, (some (.tab [.fl .f32] x4))⟩, ⟨true, (some (.tab [.fl .f32] x5))⟩, ⟨true, (some (.tab sc1 x6))⟩], 5, []⟩)].map fun (b, x) => (b, (x.1, frameOf 129 [1, 2, 3] x.2.1, x.2.2)))
noncomputable def u37l1 (x0 x1 x2 : Int) (x3 x4 x5 x6 : List (List Int)) (p : Nat) : Option (Fin' × List Value × St) := alts ([((Nat.beq p 0), .ret, [vp 0, .bool false, vi x0], ⟨[⟨true, (some (.cells [wsl 2, wsl 3, wsl 1, wsl 4]))⟩, ⟨true, (some (.tab sc0 x3))⟩, ⟨true, (some (.tab [.fl .f32] x4))⟩, ⟨true, (some (.tab [.fl .f32] x5))⟩, ⟨true, (some (.tab sc1 x6))⟩], 5, []⟩), ((Nat.beq p 1), .exit 2, [vp 0, anyV, vi x0], ⟨[⟨true, (some (.cells [wsl 2, wsl 3, wsl 1, wsl 4]))⟩, ⟨true, (some (.tab sc0 x3))⟩, ⟨true, (some (.tab [.fl .f32] x4))⟩, ⟨true, (some (.tab [.fl .f32] x5))⟩, ⟨true, (some (.tab sc1 x6))⟩], 5, []⟩)].map fun (b, x) => (b, (x.1, frameOf 129 [1, 2, 3] x.2.1, x.2.2))) some
theorem v37l1 (x0 x1 x2 : Int) (x3 x4 x5 x6 : List (List Int)) (p : Nat) : u37l1 x0 x1 x2 x3 x4 x5 x6 p = a37l1 x0 x1 x2 x3 x4 x5 x6 p := alts_first _
noncomputable def q37l1 (m : Nat) : SumK := fun vals s =>
 match vals, s.h with
 | [.pointer (some ⟨f0, f1, some f2⟩), .int .i64 x0, .iface f3 .nilIface, .int .i64 x1, .int .i64 x2], [⟨true, some (.cells [.iface f4 .nilIface, .iface f5 .nilIface, .iface f6 .nilIface, .iface f7 .nilIface])⟩, ⟨true, some (.tab [.int .i64, .int .i64, .fl .f32, .fl .f32, .fl .f32, .fl .f32, .fl .f32, .fl .f32] x3)⟩, ⟨true, some (.tab [.fl .f32] x4)⟩, ⟨true, some (.tab [.fl .f32] x5)⟩, ⟨true, some (.tab [.int .i64, .int .i64, .fl .f32, .fl .f32] x6)⟩] => if f0 = 0 ∧ f1 = 0 ∧ f2 = 0 ∧ f3 = 1 ∧ f4 = 2 ∧ f5 = 3 ∧ f6 = 1 ∧ f7 = 4 then [((Nat.beq (r37l1 m x0 x1 x2 x3 x4 x5 x6) 0), .ret, [vp 0, .bool false, vi x0], ⟨[⟨true, (some (.cells [wsl 2, wsl 3, wsl 1, wsl 4]))⟩, ⟨true, (some (.tab sc0 x3))⟩, ⟨true, (some (.tab [.fl .f32] x4))⟩, ⟨true, (some (.tab [.fl .f32] x5))⟩, ⟨true, (some (.tab sc1 x6))⟩], 5, []⟩), ((Nat.beq (r37l1 m x0 x1 x2 x3 x4 x5 x6) 1), .exit 2, [vp 0, anyV, vi x0], ⟨[⟨true, (some (.cells [wsl 2, wsl 3, wsl 1, wsl 4]))⟩, ⟨true, (some (.tab sc0 x3))⟩, ⟨true, (some (.tab [.fl .f32] x4))⟩, ⟨true, (some (.tab [.fl .f32] x5))⟩, ⟨true, (some (.tab sc1 x6))⟩], 5, []⟩)] else noQ vals s
 | _, _ => noQ vals s
noncomputable def w37l1 (ih : Int → Int → Int → List (List Int) → List (List Int) → List (List Int) → List (List Int) → Nat) (x0 x1 x2 : Int) (x3 x4 x5 x6 : List (List Int)) : Option (Fin' × List Value × St) :=
 let c540 := (r67 ((x3.getD (Int.toNat x2) []).getD 0 0) ((x3.getD (Int.toNat x2) []).getD 1 0) x0)
 let c541 := (r68 (Int.toNat ((x3.getD (Int.toNat x2) []).getD 2 0)))
 let c542 := (r69 (Int.toNat ((x3.getD (Int.toNat x2) []).getD 2 0)) 1015021568 1120403456)
 let c543 := (r66 (Int.toNat ((x3.getD (Int.toNat x2) []).getD 3 0)))
 let c544 := (r65 (Int.toNat ((x3.getD (Int.toNat x2) []).getD 4 0)))
 let c545 := (r65 (Int.toNat ((x3.getD (Int.toNat x2) []).getD 5 0)))
 let c546 := (r65 (Int.toNat ((x3.getD (Int.toNat x2) []).getD 6 0)))
 let c547 := (r65 (Int.toNat ((x3.getD (Int.toNat x2) []).getD 7 0)))
 (cond (decide ((x2 : Int) < x1))
 (cond ((decide ((0 : Int) ≤ x2)) && (Nat.blt (Int.toNat x2) x3.length))
  (cond (Nat.blt (Int.toNat x2) x3.length)
   (cond (!c540)
    (a37l1 x0 x1 x2 x3 x4 x5 x6 (0))
    (cond (!c541)
     (a37l1 x0 x1 x2 x3 x4 x5 x6 (0))
     (cond (!c542)
      (a37l1 x0 x1 x2 x3 x4 x5 x6 (0))
      (cond (!c543)
       (a37l1 x0 x1 x2 x3 x4 x5 x6 (0))
       (cond (!c544)
        (a37l1 x0 x1 x2 x3 x4 x5 x6 (0))
        (cond (!c545)
         (a37l1 x0 x1 x2 x3 x4 x5 x6 (0))
         (cond (!c546)
          (a37l1 x0 x1 x2 x3 x4 x5 x6 (0))
          (cond (!c547)
           (a37l1 x0 x1 x2 x3 x4 x5 x6 (0))
           (u37l1 x0 x1 x2 x3 x4 x5 x6 (ih x0 x1 (IntKind.i64.wrap (x2 + 1)) x3 x4 x5 x6))))))))))
   none)
  none)
 (a37l1 x0 x1 x2 x3 x4 x5 x6 (1)))
set_option maxRecDepth 100000 in
set_option maxHeartbeats 4000000 in
theorem e37l1 (m : Nat) (x0 x1 x2 : Int) (x3 x4 x5 x6 : List (List Int)) : evC Tryd.prog ext T35 L37_1 200 (loopN Tryd.f37 1) (loopTail ([1, 3, 61, 62, 63], []) [1, 2, 3] [] (sumK 129 [1, 3, 61, 62, 63] [1, 2, 3] (q37l1 m))) (frameOf 129 [1, 3, 61, 62, 63] [vp 0, vi x0, wsl 1, vi x1, vi x2]) ⟨[⟨true, (some (.cells [wsl 2, wsl 3, wsl 1, wsl 4]))⟩, ⟨true, (some (.tab sc0 x3))⟩, ⟨true, (some (.tab [.fl .f32] x4))⟩, ⟨true, (some (.tab [.fl .f32] x5))⟩, ⟨true, (some (.tab sc1 x6))⟩], 5, []⟩ = firstT ([((Nat.beq (r37l1 (m + 1) x0 x1 x2 x3 x4 x5 x6) 0), .ret, [vp 0, .bool false, vi x0], ⟨[⟨true, (some (.cells [wsl 2, wsl 3, wsl 1, wsl 4]))⟩, ⟨true, (some (.tab sc0 x3))⟩, ⟨true, (some (.tab [.fl .f32] x4))⟩, ⟨true, (some (.tab [.fl .f32] x5))⟩, ⟨true, (some (.tab sc1 x6))⟩], 5, []⟩), ((Nat.beq (r37l1 (m + 1) x0 x1 x2 x3 x4 x5 x6) 1), .exit 2, [vp 0, anyV, vi x0], ⟨[⟨true, (some (.cells [wsl 2, wsl 3, wsl 1, wsl 4]))⟩, ⟨true, (some (.tab sc0 x3))⟩, ⟨true, (some (.tab [.fl .f32] x4))⟩, ⟨true, (some (.tab [.fl .f32] x5))⟩, ⟨true, (some (.tab sc1 x6))⟩], 5, []⟩)].map fun (b, x) => (b, (x.1, frameOf 129 [1, 2, 3] x.2.1, x.2.2))) :=
 (show evC Tryd.prog ext T35 L37_1 200 (loopN Tryd.f37 1) (loopTail ([1, 3, 61, 62, 63], []) [1, 2, 3] [] (sumK 129 [1, 3, 61, 62, 63] [1, 2, 3] (q37l1 m))) (frameOf 129 [1, 3, 61, 62, 63] [vp 0, vi x0, wsl 1, vi x1, vi x2]) ⟨[⟨true, (some (.cells [wsl 2, wsl 3, wsl 1, wsl 4]))⟩, ⟨true, (some (.tab sc0 x3))⟩, ⟨true, (some (.tab [.fl .f32] x4))⟩, ⟨true, (some (.tab [.fl .f32] x5))⟩, ⟨true, (some (.tab sc1 x6))⟩], 5, []⟩ = w37l1 (r37l1 m) x0 x1 x2 x3 x4 x5 x6 from by kernel_rfl).trans
 (show w37l1 (r37l1 m) x0 x1 x2 x3 x4 x5 x6 = a37l1 x0 x1 x2 x3 x4 x5 x6 (r37l1 (m + 1) x0 x1 x2 x3 x4 x5 x6) from by unfold w37l1; show _ = a37l1 x0 x1 x2 x3 x4 x5 x6 (b37l1 (r37l1 m) x0 x1 x2 x3 x4 x5 x6); unfold b37l1; exact (cond_both (a37l1 x0 x1 x2 x3 x4 x5 x6) _ (fun h0 => (cond_both (a37l1 x0 x1 x2 x3 x4 x5 x6) _ (fun h1 => (cond_t (ev_and2 h1) (cond_app (a37l1 x0 x1 x2 x3 x4 x5 x6) _ rfl (cond_app (a37l1 x0 x1 x2 x3 x4 x5 x6) _ rfl (cond_app (a37l1 x0 x1 x2 x3 x4 x5 x6) _ rfl (cond_app (a37l1 x0 x1 x2 x3 x4 x5 x6) _ rfl (cond_app (a37l1 x0 x1 x2 x3 x4 x5 x6) _ rfl (cond_app (a37l1 x0 x1 x2 x3 x4 x5 x6) _ rfl (cond_app (a37l1 x0 x1 x2 x3 x4 x5 x6) _ rfl (cond_app (a37l1 x0 x1 x2 x3 x4 x5 x6) _ rfl (v37l1 x0 x1 x2 x3 x4 x5 x6 ((r37l1 m) x0 x1 (IntKind.i64.wrap (x2 + 1)) x3 x4 x5 x6)))))))))))) (fun h1 => rfl))) (fun h0 => rfl)))
set_option maxRecDepth 100000 in
set_option maxHeartbeats 4000000 in
theorem qm37l1 : ∀ m, SumKOk Tryd.prog (loopN Tryd.f37 1) 129 [1, 3, 61, 62, 63] [1, 2, 3] (q37l1 m) := by
  intro m
  induction m with
  | zero =>
    intro vals s x h1 h2 h3
    unfold q37l1 at h3; split at h3
    · rename_i h; split at h3
      · rename_i hc; obtain ⟨rfl, rfl, rfl, rfl, rfl, rfl, rfl, rfl⟩ := hc; exact absurd h3 (by simp [r37l1, firstT, Nat.beq])
      · exact noQ_ok _ _ _ h1 h2 h3
    · exact noQ_ok _ _ _ h1 h2 h3
  | succ m ih =>
    intro vals s x h1 h2 h3
    unfold q37l1 at h3; split at h3
    · rename_i h; split at h3
      · rename_i hc; obtain ⟨rfl, rfl, rfl, rfl, rfl, rfl, rfl, rfl⟩ := hc; exact sum_step ok35 extOk mixed (lok37_1.inner (by kernel_rfl)) ih h1 h2 h (e37l1 m _ _ _ _ _ _ _) rfl h3
      · exact noQ_ok _ _ _ h1 h2 h3
    · exact noQ_ok _ _ _ h1 h2 h3
noncomputable def Q37l1 : SumK := fun vals s => q37l1 (fuelOf vals s.h) vals s
theorem qok37l1 : SumKOk Tryd.prog (loopN Tryd.f37 1) 129 [1, 3, 61, 62, 63] [1, 2, 3] Q37l1 := fuel_ok qm37l1 fuelOf
noncomputable def L37_2 : LoopT := addL L37_1 12 ([1, 3, 61, 62, 63], []) (sumK 129 [1, 3, 61, 62, 63] [1, 2, 3] Q37l1)
theorem lok37_2 : LfOkF Tryd.prog L37_2 Tryd.f37 := lfOkF_add lok37_1 qok37l1 (by kernel_rfl) (by kernel_rfl) (by kernel_rfl)

/-- impl.isUpTo -/
noncomputable def w70 {α : Type} (x0 x1 : Nat) (k : Bool → α) : α :=
 cond (r68 x0)
  (k ((flt .f32 x0 x1 || feq .f32 x0 x1)))
  (k (false))
noncomputable def r70 (x0 x1 : Nat) : Bool := w70 x0 x1 (fun p => p)
noncomputable def g70 (x0 x1 : Nat) (p : Bool) : List (Bool × Value × St) := [(true, .bool p, st0)]
theorem p70 {α : Type} (x0 x1 : Nat) (f : Bool → α) : w70 x0 x1 f = f (w70 x0 x1 (fun p => p)) := by unfold w70; exact (cond_app f _ rfl rfl)
set_option maxRecDepth 100000 in
set_option maxHeartbeats 4000000 in
theorem e70 (x0 x1 : Nat) : evFn Tryd.prog ext T35 noL 200 Tryd.f70 [vf x0, vf x1] st0 = firstT (g70 x0 x1 (r70 x0 x1)) :=
 Eq.trans (by kernel_rfl) (p70 x0 x1 (fun p => firstT (g70 x0 x1 p)))
noncomputable def s70 (args : List Value) (s : St) : List (Bool × Value × St) :=
 match args, s.h with
 | [.float .f32 x0, .float .f32 x1], [] => (g70 x0 x1 (r70 x0 x1))
 | _, _ => T35 70 args s
noncomputable def T36 : CallF := addF T35 70 s70
set_option maxRecDepth 100000 in
set_option maxHeartbeats 4000000 in
theorem ok36 : CfOk Tryd.prog T36 := by
  refine cfOk_add ok35 fun args s r s' h1 h2 h3 => ?_
  unfold s70 at h3; split at h3
  · rename_i h; exact callOk ok35 Tryd.func70 h1 h2 h (lfOkF_no _ _).body (e70 _ _) rfl h3
  · exact ok35 _ _ _ _ _ h1 h2 h3

/-- impl.ValidFlat, loop 3: one round -/
noncomputable def b37l3 (ih : Int → Int → Int → List (List Int) → Nat) (x0 x1 x2 : Int) (x3 : List (List Int)) : Nat :=
 let c540 := (r67 ((x3.getD (Int.toNat x2) []).getD 0 0) ((x3.getD (Int.toNat x2) []).getD 1 0) x0)
 let c597 := (r70 (Int.toNat ((x3.getD (Int.toNat x2) []).getD 2 0)) 1120403456)
 let c598 := (r70 (Int.toNat ((x3.getD (Int.toNat x2) []).getD 3 0)) 1092616192)
 cond (decide ((x2 : Int) < x1))
  (cond ((decide ((0 : Int) ≤ x2)) && (Nat.blt (Int.toNat x2) x3.length))
   (cond (!c540)
    (0)
    (cond (!c597)
     (0)
     (cond (!c598)
      (0)
      (ih x0 x1 (IntKind.i64.wrap (x2 + 1)) x3))))
   (2))
  (1)
noncomputable def r37l3 : Nat → Int → Int → Int → List (List Int) → Nat
 | 0 => fun _ _ _ _ => (2)
 | m + 1 => b37l3 (r37l3 m)
noncomputable def a37l3 (x0 x1 x2 : Int) (x3 : List (List Int)) (p : Nat) : Option (Fin' × List Value × St) := firstT ([((Nat.beq p 0), .ret, [.bool false], ⟨[⟨true, (some (.tab sc1 x3))⟩], 1, []⟩), ((Nat.beq p 1), .exit 6, [anyV], ⟨[⟨true, (some (.tab sc1 x3))⟩], 1, []⟩)].map fun (b, x) => (b, (x.1, frameOf 129 [2] x.2.1, x.2.2)))
noncomputable def u37l3 (x0 x1 x2 : Int) (x3 : List (List Int)) (p : Nat) : Option (Fin' × List Value × St) := alts ([((Nat.beq p 0), .ret, [.bool false], ⟨[⟨true, (some (.tab sc1 x3))⟩], 1, []⟩), ((Nat.beq p 1), .exit 6, [anyV], ⟨[⟨true, (some (.tab sc1 x3))⟩], 1, []⟩)].map fun (b, x) => (b, (x.1, frameOf 129 [2] x.2.1, x.2.2))) some
theorem v37l3 (x0 x1 x2 : Int) (x3 : List (List Int)) (p : Nat) : u37l3 x0 x1 x2 x3 p = a37l3 x0 x1 x2 x3 p := alts_first _
noncomputable def q37l3 (m : Nat) : SumK := fun vals s =>
 match vals, s.h with
 | [.int .i64 x0, .iface f0 .nilIface, .int .i64 x1, .int .i64 x2], [⟨true, some (.tab [.int .i64, .int .i64, .fl .f32, .fl .f32] x3)⟩] => if f0 = 0 then [((Nat.beq (r37l3 m x0 x1 x2 x3) 0), .ret, [.bool false], ⟨[⟨true, (some (.tab sc1 x3))⟩], 1, []⟩), ((Nat.beq (r37l3 m x0 x1 x2 x3) 1), .exit 6, [anyV], ⟨[⟨true, (some (.tab sc1 x3))⟩], 1, []⟩)] else noQ vals s
 | _, _ => noQ vals s
noncomputable def w37l3 (ih : Int → Int → Int → List (List Int) → Nat) (x0 x1 x2 : Int) (x3 : List (List Int)) : Option (Fin' × List Value × St) :=
 let c540 := (r67 ((x3.getD (Int.toNat x2) []).getD 0 0) ((x3.getD (Int.toNat x2) []).getD 1 0) x0)
 let c597 := (r70 (Int.toNat ((x3.getD (Int.toNat x2) []).getD 2 0)) 1120403456)
 let c598 := (r70 (Int.toNat ((x3.getD (Int.toNat x2) []).getD 3 0)) 1092616192)
 (cond (decide ((x2 : Int) < x1))
 (cond ((decide ((0 : Int) ≤ x2)) && (Nat.blt (Int.toNat x2) x3.length))
  (cond (Nat.blt (Int.toNat x2) x3.length)
   (cond (!c540)
    (a37l3 x0 x1 x2 x3 (0))
    (cond (!c597)
     (a37l3 x0 x1 x2 x3 (0))
     (cond (!c598)
      (a37l3 x0 x1 x2 x3 (0))
      (u37l3 x0 x1 x2 x3 (ih x0 x1 (IntKind.i64.wrap (x2 + 1)) x3)))))
   none)
  none)
 (a37l3 x0 x1 x2 x3 (1)))
set_option maxRecDepth 100000 in
set_option maxHeartbeats 4000000 in
theorem e37l3 (m : Nat) (x0 x1 x2 : Int) (x3 : List (List Int)) : evC Tryd.prog ext T36 L37_2 200 (loopN Tryd.f37 3) (loopTail ([3, 103, 104, 105], []) [2] [] (sumK 129 [3, 103, 104, 105] [2] (q37l3 m))) (frameOf 129 [3, 103, 104, 105] [vi x0, wsl 0, vi x1, vi x2]) ⟨[⟨true, (some (.tab sc1 x3))⟩], 1, []⟩ = firstT ([((Nat.beq (r37l3 (m + 1) x0 x1 x2 x3) 0), .ret, [.bool false], ⟨[⟨true, (some (.tab sc1 x3))⟩], 1, []⟩), ((Nat.beq (r37l3 (m + 1) x0 x1 x2 x3) 1), .exit 6, [anyV], ⟨[⟨true, (some (.tab sc1 x3))⟩], 1, []⟩)].map fun (b, x) => (b, (x.1, frameOf 129 [2] x.2.1, x.2.2))) :=
 (show evC Tryd.prog ext T36 L37_2 200 (loopN Tryd.f37 3) (loopTail ([3, 103, 104, 105], []) [2] [] (sumK 129 [3, 103, 104, 105] [2] (q37l3 m))) (frameOf 129 [3, 103, 104, 105] [vi x0, wsl 0, vi x1, vi x2]) ⟨[⟨true, (some (.tab sc1 x3))⟩], 1, []⟩ = w37l3 (r37l3 m) x0 x1 x2 x3 from by kernel_rfl).trans
 (show w37l3 (r37l3 m) x0 x1 x2 x3 = a37l3 x0 x1 x2 x3 (r37l3 (m + 1) x0 x1 x2 x3) from by unfold w37l3; show _ = a37l3 x0 x1 x2 x3 (b37l3 (r37l3 m) x0 x1 x2 x3); unfold b37l3; exact (cond_both (a37l3 x0 x1 x2 x3) _ (fun h0 => (cond_both (a37l3 x0 x1 x2 x3) _ (fun h1 => (cond_t (ev_and2 h1) (cond_app (a37l3 x0 x1 x2 x3) _ rfl (cond_app (a37l3 x0 x1 x2 x3) _ rfl (cond_app (a37l3 x0 x1 x2 x3) _ rfl (v37l3 x0 x1 x2 x3 ((r37l3 m) x0 x1 (IntKind.i64.wrap (x2 + 1)) x3))))))) (fun h1 => rfl))) (fun h0 => rfl)))
set_option maxRecDepth 100000 in
set_option maxHeartbeats 4000000 in
theorem qm37l3 : ∀ m, SumKOk Tryd.prog (loopN Tryd.f37 3) 129 [3, 103, 104, 105] [2] (q37l3 m) := by
  intro m
  induction m with
  | zero =>
    intro vals s x h1 h2 h3
    unfold q37l3 at h3; split at h3
    · rename_i h; split at h3
      · rename_i hc; obtain ⟨rfl⟩ := hc; exact absurd h3 (by simp [r37l3, firstT, Nat.beq])
      · exact noQ_ok _ _ _ h1 h2 h3
    · exact noQ_ok _ _ _ h1 h2 h3
  | succ m ih =>
    intro vals s x h1 h2 h3
    unfold q37l3 at h3; split at h3
    · rename_i h; split at h3
      · rename_i hc; obtain ⟨rfl⟩ := hc; exact sum_step ok36 extOk mixed (lok37_2.inner (by kernel_rfl)) ih h1 h2 h (e37l3 m _ _ _ _) rfl h3
      · exact noQ_ok _ _ _ h1 h2 h3
    · exact noQ_ok _ _ _ h1 h2 h3
noncomputable def Q37l3 : SumK := fun vals s => q37l3 (fuelOf vals s.h) vals s
theorem qok37l3 : SumKOk Tryd.prog (loopN Tryd.f37 3) 129 [3, 103, 104, 105] [2] Q37l3 := fuel_ok qm37l3 fuelOf
noncomputable def L37_3 : LoopT := addL L37_2 24 ([3, 103, 104, 105], []) (sumK 129 [3, 103, 104, 105] [2] Q37l3)
theorem lok37_3 : LfOkF Tryd.prog L37_3 Tryd.f37 := lfOkF_add lok37_2 qok37l3 (by kernel_rfl) (by kernel_rfl) (by kernel_rfl)

/-- impl.ValidFlat -/
noncomputable def w37 {α : Type} (x0 x1 x2 x3 : List (List Int)) (k : (Nat × Bool) → α) : α :=
 let c411 := (r37l0 (1000 + x3.length + x2.length + x1.length + x0.length) ((x0.length : Nat) : Int) ((x0.length : Nat) : Int) 0 x0 x1 x2 x3)
 let c548 := (r37l1 (1000 + x3.length + x1.length + x0.length + x2.length) ((x0.length : Nat) : Int) ((x2.length : Nat) : Int) 0 x2 x0 x1 x3)
 let c599 := (r37l3 (1000 + x3.length) ((x0.length : Nat) : Int) ((x3.length : Nat) : Int) 0 x3)
 cond (decide ((((x0.length : Nat) : Int) : Int) < 1))
  (k (0, false))
  (cond (decide ((((x0.length : Nat) : Int) : Int) > 5))
   (k (0, false))
   (cond ((((x1.length : Nat) : Int) : Int) != ((x0.length : Nat) : Int))
    (k (0, false))
    (cond (decide ((((x2.length : Nat) : Int) : Int) > 10))
     (k (0, false))
     (cond (decide ((((x3.length : Nat) : Int) : Int) > 8))
      (k (0, false))
      (cond (Nat.beq c411 0)
       (k (0, false))
       (cond (Nat.beq c411 1)
        (cond (Nat.beq c548 0)
         (k (0, false))
         (cond (Nat.beq c548 1)
          (cond (Nat.beq c599 0)
           (k (0, false))
           (cond (Nat.beq c599 1)
            (k (0, true))
            (k (1, false))))
          (k (1, false))))
        (k (1, false))))))))
noncomputable def r37 (x0 x1 x2 x3 : List (List Int)) : Nat × Bool := w37 x0 x1 x2 x3 (fun p => p)
noncomputable def g37 (x0 x1 x2 x3 : List (List Int)) (p : Nat × Bool) : List (Bool × Value × St) := [((Nat.beq (p.1) 0), .bool (p.2), ⟨[⟨true, (some (.tab [.fl .f32] x0))⟩, ⟨true, (some (.tab [.fl .f32] x1))⟩, ⟨true, (some (.tab sc0 x2))⟩, ⟨true, (some (.tab sc1 x3))⟩], 4, []⟩)]
theorem p37 {α : Type} (x0 x1 x2 x3 : List (List Int)) (f : (Nat × Bool) → α) : w37 x0 x1 x2 x3 f = f (w37 x0 x1 x2 x3 (fun p => p)) := by unfold w37; repeat' (first | refine cond_app f _ ?_ ?_ | rfl)
set_option maxRecDepth 100000 in
set_option maxHeartbeats 4000000 in
theorem e37 (x0 x1 x2 x3 : List (List Int)) : evFn Tryd.prog ext T36 L37_3 200 Tryd.f37 [.agg #[wsl 0, wsl 1, wsl 2, wsl 3]] ⟨[⟨true, (some (.tab [.fl .f32] x0))⟩, ⟨true, (some (.tab [.fl .f32] x1))⟩, ⟨true, (some (.tab sc0 x2))⟩, ⟨true, (some (.tab sc1 x3))⟩], 4, []⟩ = firstT (g37 x0 x1 x2 x3 (r37 x0 x1 x2 x3)) :=
 Eq.trans (by kernel_rfl) (p37 x0 x1 x2 x3 (fun p => firstT (g37 x0 x1 x2 x3 p)))
noncomputable def s37 (args : List Value) (s : St) : List (Bool × Value × St) :=
 match args, s.h with
 | [.agg ⟨[.iface f0 .nilIface, .iface f1 .nilIface, .iface f2 .nilIface, .iface f3 .nilIface]⟩], [⟨true, some (.tab [.fl .f32] x0)⟩, ⟨true, some (.tab [.fl .f32] x1)⟩, ⟨true, some (.tab [.int .i64, .int .i64, .fl .f32, .fl .f32, .fl .f32, .fl .f32, .fl .f32, .fl .f32] x2)⟩, ⟨true, some (.tab [.int .i64, .int .i64, .fl .f32, .fl .f32] x3)⟩] => if f0 = 0 ∧ f1 = 1 ∧ f2 = 2 ∧ f3 = 3 then (g37 x0 x1 x2 x3 (r37 x0 x1 x2 x3)) else T36 37 args s
 | _, _ => T36 37 args s
noncomputable def T37 : CallF := addF T36 37 s37
set_option maxRecDepth 100000 in
set_option maxHeartbeats 4000000 in
theorem ok37 : CfOk Tryd.prog T37 := by
  refine cfOk_add ok36 fun args s r s' h1 h2 h3 => ?_
  unfold s37 at h3; split at h3
  · rename_i h; split at h3
    · rename_i hc; obtain ⟨rfl, rfl, rfl, rfl⟩ := hc; exact callOk ok36 Tryd.func37 h1 h2 h lok37_3.body (e37 _ _ _ _) rfl h3
    · exact ok36 _ _ _ _ _ h1 h2 h3
  · exact ok36 _ _ _ _ _ h1 h2 h3

/-- impl.hex -/
noncomputable def w54 {α : Type} (x0 : Int) (k : (Nat × ByteArray) → α) : α :=
 cond ((decide ((0 : Int) ≤ (bits .and .u32 (Int.fdiv x0 (2 ^ (min (28 : Int).toNat (IntKind.bits .u32)))) 15))) && (Nat.blt (Int.toNat (bits .and .u32 (Int.fdiv x0 (2 ^ (min (28 : Int).toNat (IntKind.bits .u32)))) 15)) 16))
  (cond ((decide ((0 : Int) ≤ (bits .and .u32 (Int.fdiv x0 (2 ^ (min (24 : Int).toNat (IntKind.bits .u32)))) 15))) && (Nat.blt (Int.toNat (bits .and .u32 (Int.fdiv x0 (2 ^ (min (24 : Int).toNat (IntKind.bits .u32)))) 15)) 16))
   (cond ((decide ((0 : Int) ≤ (bits .and .u32 (Int.fdiv x0 (2 ^ (min (20 : Int).toNat (IntKind.bits .u32)))) 15))) && (Nat.blt (Int.toNat (bits .and .u32 (Int.fdiv x0 (2 ^ (min (20 : Int).toNat (IntKind.bits .u32)))) 15)) 16))
    (cond ((decide ((0 : Int) ≤ (bits .and .u32 (Int.fdiv x0 (2 ^ (min (16 : Int).toNat (IntKind.bits .u32)))) 15))) && (Nat.blt (Int.toNat (bits .and .u32 (Int.fdiv x0 (2 ^ (min (16 : Int).toNat (IntKind.bits .u32)))) 15)) 16))
     (cond ((decide ((0 : Int) ≤ (bits .and .u32 (Int.fdiv x0 (2 ^ (min (12 : Int).toNat (IntKind.bits .u32)))) 15))) && (Nat.blt (Int.toNat (bits .and .u32 (Int.fdiv x0 (2 ^ (min (12 : Int).toNat (IntKind.bits .u32)))) 15)) 16))
      (cond ((decide ((0 : Int) ≤ (bits .and .u32 (Int.fdiv x0 (2 ^ (min (8 : Int).toNat (IntKind.bits .u32)))) 15))) && (Nat.blt (Int.toNat (bits .and .u32 (Int.fdiv x0 (2 ^ (min (8 : Int).toNat (IntKind.bits .u32)))) 15)) 16))
       (cond ((decide ((0 : Int) ≤ (bits .and .u32 (Int.fdiv x0 (2 ^ (min (4 : Int).toNat (IntKind.bits .u32)))) 15))) && (Nat.blt (Int.toNat (bits .and .u32 (Int.fdiv x0 (2 ^ (min (4 : Int).toNat (IntKind.bits .u32)))) 15)) 16))
        (cond ((decide ((0 : Int) ≤ (bits .and .u32 (Int.fdiv x0 (2 ^ (min (0 : Int).toNat (IntKind.bits .u32)))) 15))) && (Nat.blt (Int.toNat (bits .and .u32 (Int.fdiv x0 (2 ^ (min (0 : Int).toNat (IntKind.bits .u32)))) 15)) 16))
         (k (0, (bytesOf ([[((UInt8.toNat (List.getD (ByteArray.data (ByteArray.mk #[48, 49, 50, 51, 52, 53, 54, 55, 56, 57, 97, 98, 99, 100, 101, 102])).toList (Int.toNat (bits .and .u32 (Int.fdiv x0 (2 ^ (min (28 : Int).toNat (IntKind.bits .u32)))) 15)) 0) : Nat) : Int)], [((UInt8.toNat (List.getD (ByteArray.data (ByteArray.mk #[48, 49, 50, 51, 52, 53, 54, 55, 56, 57, 97, 98, 99, 100, 101, 102])).toList (Int.toNat (bits .and .u32 (Int.fdiv x0 (2 ^ (min (24 : Int).toNat (IntKind.bits .u32)))) 15)) 0) : Nat) : Int)], [((UInt8.toNat (List.getD (ByteArray.data (ByteArray.mk #[48, 49, 50, 51, 52, 53, 54, 55, 56, 57, 97, 98, 99, 100, 101, 102])).toList (Int.toNat (bits .and .u32 (Int.fdiv x0 (2 ^ (min (20 : Int).toNat (IntKind.bits .u32)))) 15)) 0) : Nat) : Int)], [((UInt8.toNat (List.getD (ByteArray.data (ByteArray.mk #[48, 49, 50, 51, 52, 53, 54, 55, 56, 57, 97, 98, 99, 100, 101, 102])).toList (Int.toNat (bits .and .u32 (Int.fdiv x0 (2 ^ (min (16 : Int).toNat (IntKind.bits .u32)))) 15)) 0) : Nat) : Int)], [((UInt8.toNat (List.getD (ByteArray.data (ByteArray.mk #[48, 49, 50, 51, 52, 53, 54, 55, 56, 57, 97, 98, 99, 100, 101, 102])).toList (Int.toNat (bits .and .u32 (Int.fdiv x0 (2 ^ (min (12 : Int).toNat (IntKind.bits .u32)))) 15)) 0) : Nat) : Int)], [((UInt8.toNat (List.getD (ByteArray.data (ByteArray.mk #[48, 49, 50, 51, 52, 53, 54, 55, 56, 57, 97, 98, 99, 100, 101, 102])).toList (Int.toNat (bits .and .u32 (Int.fdiv x0 (2 ^ (min (8 : Int).toNat (IntKind.bits .u32)))) 15)) 0) : Nat) : Int)], [((UInt8.toNat (List.getD (ByteArray.data (ByteArray.mk #[48, 49, 50, 51, 52, 53, 54, 55, 56, 57, 97, 98, 99, 100, 101, 102])).toList (Int.toNat (bits .and .u32 (Int.fdiv x0 (2 ^ (min (4 : Int).toNat (IntKind.bits .u32)))) 15)) 0) : Nat) : Int)], [((UInt8.toNat (List.getD (ByteArray.data (ByteArray.mk #[48, 49, 50, 51, 52, 53, 54, 55, 56, 57, 97, 98, 99, 100, 101, 102])).toList (Int.toNat (bits .and .u32 (Int.fdiv x0 (2 ^ (min (0 : Int).toNat (IntKind.bits .u32)))) 15)) 0) : Nat) : Int)]] : List (List Int)))))
         (k (1, ByteArray.empty)))
        (k (1, ByteArray.empty)))
       (k (1, ByteArray.empty)))
      (k (1, ByteArray.empty)))
     (k (1, ByteArray.empty)))
    (k (1, ByteArray.empty)))
   (k (1, ByteArray.empty)))
  (k (1, ByteArray.empty))
noncomputable def r54 (x0 : Int) : Nat × ByteArray := w54 x0 (fun p => p)
noncomputable def g54 (x0 : Int) (p : Nat × ByteArray) : List (Bool × Value × St) := [((Nat.beq (p.1) 0), .string (p.2), st0)]
theorem p54 {α : Type} (x0 : Int) (f : (Nat × ByteArray) → α) : w54 x0 f = f (w54 x0 (fun p => p)) := by unfold w54; repeat' (first | refine cond_app f _ ?_ ?_ | rfl)
set_option maxRecDepth 100000 in
set_option maxHeartbeats 4000000 in
theorem e54 (x0 : Int) : evFn Tryd.prog ext T37 noL 200 Tryd.f54 [.int .u32 x0] st0 = firstT (g54 x0 (r54 x0)) :=
 Eq.trans (by kernel_rfl) (p54 x0 (fun p => firstT (g54 x0 p)))
noncomputable def s54 (args : List Value) (s : St) : List (Bool × Value × St) :=
 match args, s.h with
 | [.int .u32 x0], [] => (g54 x0 (r54 x0))
 | _, _ => T37 54 args s
noncomputable def T38 : CallF := addF T37 54 s54
set_option maxRecDepth 100000 in
set_option maxHeartbeats 4000000 in
theorem ok38 : CfOk Tryd.prog T38 := by
  refine cfOk_add ok37 fun args s r s' h1 h2 h3 => ?_
  unfold s54 at h3; split at h3
  · rename_i h; exact callOk ok37 Tryd.func54 h1 h2 h (lfOkF_no _ _).body (e54 _) rfl h3
  · exact ok37 _ _ _ _ _ h1 h2 h3

/-- impl.NumberText -/
noncomputable def r25 (x0 : Nat) : Nat × ByteArray :=
 cond (!feq .f32 x0 x0)
  (0, (ByteArray.mk #[55, 102, 99, 48, 48, 48, 48, 48]))
  (cond (Nat.beq ((r54 ((x0 : Nat) : Int)).1) 0)
   (0, ((r54 ((x0 : Nat) : Int)).2))
   (1, ByteArray.empty))
noncomputable def a25 (x0 : Nat) (p : Nat × ByteArray) : Res := firstT [((Nat.beq (p.1) 0), .string (p.2), st0)]
noncomputable def w25 (x0 : Nat) : Res :=
 (cond (!feq .f32 x0 x0)
 (a25 x0 (0, (ByteArray.mk #[55, 102, 99, 48, 48, 48, 48, 48])))
 (cond (!isN .f32 x0)
  (cond (Nat.beq ((r54 ((x0 : Nat) : Int)).1) 0)
   (a25 x0 (0, ((r54 ((x0 : Nat) : Int)).2)))
   none)
  none))
set_option maxRecDepth 100000 in
set_option maxHeartbeats 4000000 in
theorem e25 (x0 : Nat) : evFn Tryd.prog ext T38 noL 200 Tryd.f25 [vf x0] st0 = firstT [((Nat.beq ((r25 x0).1) 0), .string ((r25 x0).2), st0)] :=
 (show evFn Tryd.prog ext T38 noL 200 Tryd.f25 [vf x0] st0 = w25 x0 from by kernel_rfl).trans
 (show w25 x0 = a25 x0 (r25 x0) from by unfold w25 r25; exact (cond_both (a25 x0) _ (fun h0 => rfl) (fun h0 => (cond_t (ev_not1 (ev_eq1 (ev_notf h0))) (cond_app (a25 x0) _ rfl rfl)))))
noncomputable def s25 (args : List Value) (s : St) : List (Bool × Value × St) :=
 match args, s.h with
 | [.float .f32 x0], [] => [((Nat.beq ((r25 x0).1) 0), .string ((r25 x0).2), st0)]
 | _, _ => T38 25 args s
noncomputable def T39 : CallF := addF T38 25 s25
set_option maxRecDepth 100000 in
set_option maxHeartbeats 4000000 in
theorem ok39 : CfOk Tryd.prog T39 := by
  refine cfOk_add ok38 fun args s r s' h1 h2 h3 => ?_
  unfold s25 at h3; split at h3
  · rename_i h; exact callOk ok38 Tryd.func25 h1 h2 h (lfOkF_no _ _).body (e25 _) rfl h3
  · exact ok38 _ _ _ _ _ h1 h2 h3

/-- impl.flatText, loop 0: one round -/
noncomputable def b38l0 (ih : ByteArray → Int → Int → List (List Int) → List (List Int) → List (List Int) → List (List Int) → (Nat × ByteArray)) (x0 : ByteArray) (x1 x2 : Int) (x3 x4 x5 x6 : List (List Int)) : Nat × ByteArray :=
 let c632 := (r25 (Int.toNat ((x3.getD (Int.toNat x2) []).getD 0 0)))
 let c633 := (r25 (Int.toNat ((x4.getD (Int.toNat x2) []).getD 0 0)))
 cond (decide ((x2 : Int) < x1))
  (cond ((decide ((0 : Int) ≤ x2)) && (Nat.blt (Int.toNat x2) x3.length))
   (cond (Nat.beq (c632.1) 0)
    (cond (decide (5 + (c632.2).size ≤ strMax))
     (cond (decide (((ByteArray.mk #[114, 111, 111, 109, 32]) ++ (c632.2)).size + 1 ≤ strMax))
      (cond ((decide ((0 : Int) ≤ x2)) && (Nat.blt (Int.toNat x2) x4.length))
       (cond (Nat.beq (c633.1) 0)
        (cond (decide ((((ByteArray.mk #[114, 111, 111, 109, 32]) ++ (c632.2)) ++ (ByteArray.mk #[32])).size + (c633.2).size ≤ strMax))
         (cond (decide (((((ByteArray.mk #[114, 111, 111, 109, 32]) ++ (c632.2)) ++ (ByteArray.mk #[32])) ++ (c633.2)).size + 1 ≤ strMax))
          (cond (decide (x0.size + (((((ByteArray.mk #[114, 111, 111, 109, 32]) ++ (c632.2)) ++ (ByteArray.mk #[32])) ++ (c633.2)) ++ (ByteArray.mk #[10])).size ≤ strMax))
           (ih (x0 ++ (((((ByteArray.mk #[114, 111, 111, 109, 32]) ++ (c632.2)) ++ (ByteArray.mk #[32])) ++ (c633.2)) ++ (ByteArray.mk #[10]))) x1 (IntKind.i64.wrap (x2 + 1)) x3 x4 x5 x6)
           (1, ByteArray.empty))
          (1, ByteArray.empty))
         (1, ByteArray.empty))
        (1, ByteArray.empty))
       (1, ByteArray.empty))
      (1, ByteArray.empty))
     (1, ByteArray.empty))
    (1, ByteArray.empty))
   (1, ByteArray.empty))
  (0, x0)
noncomputable def r38l0 : Nat → ByteArray → Int → Int → List (List Int) → List (List Int) → List (List Int) → List (List Int) → (Nat × ByteArray)
 | 0 => fun _ _ _ _ _ _ _ => (1, ByteArray.empty)
 | m + 1 => b38l0 (r38l0 m)
noncomputable def a38l0 (x0 : ByteArray) (x1 x2 : Int) (x3 x4 x5 x6 : List (List Int)) (p : Nat × ByteArray) : Option (Fin' × List Value × St) := firstT ([((Nat.beq (p.1) 0), .exit 0, [vp 0, .string (p.2)], ⟨[⟨true, (some (.cells [wsl 1, wsl 2, wsl 3, wsl 4]))⟩, ⟨true, (some (.tab [.fl .f32] x3))⟩, ⟨true, (some (.tab [.fl .f32] x4))⟩, ⟨true, (some (.tab sc0 x5))⟩, ⟨true, (some (.tab sc1 x6))⟩], 5, []⟩)].map fun (b, x) => (b, (x.1, frameOf 99 [1, 3] x.2.1, x.2.2)))
noncomputable def u38l0 (x0 : ByteArray) (x1 x2 : Int) (x3 x4 x5 x6 : List (List Int)) (p : Nat × ByteArray) : Option (Fin' × List Value × St) := alts ([((Nat.beq (p.1) 0), .exit 0, [vp 0, .string (p.2)], ⟨[⟨true, (some (.cells [wsl 1, wsl 2, wsl 3, wsl 4]))⟩, ⟨true, (some (.tab [.fl .f32] x3))⟩, ⟨true, (some (.tab [.fl .f32] x4))⟩, ⟨true, (some (.tab sc0 x5))⟩, ⟨true, (some (.tab sc1 x6))⟩], 5, []⟩)].map fun (b, x) => (b, (x.1, frameOf 99 [1, 3] x.2.1, x.2.2))) some
theorem v38l0 (x0 : ByteArray) (x1 x2 : Int) (x3 x4 x5 x6 : List (List Int)) (p : Nat × ByteArray) : u38l0 x0 x1 x2 x3 x4 x5 x6 p = a38l0 x0 x1 x2 x3 x4 x5 x6 p := alts_first _
noncomputable def q38l0 (m : Nat) : SumK := fun vals s =>
 match vals, s.h with
 | [.pointer (some ⟨f0, f1, some f2⟩), .string x0, .iface f3 .nilIface, .int .i64 x1, .int .i64 x2], [⟨true, some (.cells [.iface f4 .nilIface, .iface f5 .nilIface, .iface f6 .nilIface, .iface f7 .nilIface])⟩, ⟨true, some (.tab [.fl .f32] x3)⟩, ⟨true, some (.tab [.fl .f32] x4)⟩, ⟨true, some (.tab [.int .i64, .int .i64, .fl .f32, .fl .f32, .fl .f32, .fl .f32, .fl .f32, .fl .f32] x5)⟩, ⟨true, some (.tab [.int .i64, .int .i64, .fl .f32, .fl .f32] x6)⟩] => if f0 = 0 ∧ f1 = 0 ∧ f2 = 0 ∧ f3 = 1 ∧ f4 = 1 ∧ f5 = 2 ∧ f6 = 3 ∧ f7 = 4 then [((Nat.beq ((r38l0 m x0 x1 x2 x3 x4 x5 x6).1) 0), .exit 0, [vp 0, .string ((r38l0 m x0 x1 x2 x3 x4 x5 x6).2)], ⟨[⟨true, (some (.cells [wsl 1, wsl 2, wsl 3, wsl 4]))⟩, ⟨true, (some (.tab [.fl .f32] x3))⟩, ⟨true, (some (.tab [.fl .f32] x4))⟩, ⟨true, (some (.tab sc0 x5))⟩, ⟨true, (some (.tab sc1 x6))⟩], 5, []⟩)] else noQ vals s
 | _, _ => noQ vals s
noncomputable def w38l0 (ih : ByteArray → Int → Int → List (List Int) → List (List Int) → List (List Int) → List (List Int) → (Nat × ByteArray)) (x0 : ByteArray) (x1 x2 : Int) (x3 x4 x5 x6 : List (List Int)) : Option (Fin' × List Value × St) :=
 let c632 := (r25 (Int.toNat ((x3.getD (Int.toNat x2) []).getD 0 0)))
 let c633 := (r25 (Int.toNat ((x4.getD (Int.toNat x2) []).getD 0 0)))
 (cond (decide ((x2 : Int) < x1))
 (cond ((decide ((0 : Int) ≤ x2)) && (Nat.blt (Int.toNat x2) x3.length))
  (cond (Nat.blt (Int.toNat x2) x3.length)
   (cond (Nat.beq (c632.1) 0)
    (cond (decide (5 + (c632.2).size ≤ strMax))
     (cond (decide (((ByteArray.mk #[114, 111, 111, 109, 32]) ++ (c632.2)).size + 1 ≤ strMax))
      (cond ((decide ((0 : Int) ≤ x2)) && (Nat.blt (Int.toNat x2) x4.length))
       (cond (Nat.blt (Int.toNat x2) x4.length)
        (cond (Nat.beq (c633.1) 0)
         (cond (decide ((((ByteArray.mk #[114, 111, 111, 109, 32]) ++ (c632.2)) ++ (ByteArray.mk #[32])).size + (c633.2).size ≤ strMax))
          (cond (decide (((((ByteArray.mk #[114, 111, 111, 109, 32]) ++ (c632.2)) ++ (ByteArray.mk #[32])) ++ (c633.2)).size + 1 ≤ strMax))
           (cond (decide (x0.size + (((((ByteArray.mk #[114, 111, 111, 109, 32]) ++ (c632.2)) ++ (ByteArray.mk #[32])) ++ (c633.2)) ++ (ByteArray.mk #[10])).size ≤ strMax))
            (u38l0 x0 x1 x2 x3 x4 x5 x6 (ih (x0 ++ (((((ByteArray.mk #[114, 111, 111, 109, 32]) ++ (c632.2)) ++ (ByteArray.mk #[32])) ++ (c633.2)) ++ (ByteArray.mk #[10]))) x1 (IntKind.i64.wrap (x2 + 1)) x3 x4 x5 x6))
            none)
           none)
          none)
         none)
        none)
       none)
      none)
     none)
    none)
   none)
  none)
 (a38l0 x0 x1 x2 x3 x4 x5 x6 (0, x0)))
set_option maxRecDepth 100000 in
set_option maxHeartbeats 4000000 in
theorem e38l0 (m : Nat) (x0 : ByteArray) (x1 x2 : Int) (x3 x4 x5 x6 : List (List Int)) : evC Tryd.prog ext T39 noL 200 (loopN Tryd.f38 0) (loopTail ([1, 3, 14, 15, 16], []) [1, 3] [] (sumK 99 [1, 3, 14, 15, 16] [1, 3] (q38l0 m))) (frameOf 99 [1, 3, 14, 15, 16] [vp 0, .string x0, wsl 1, vi x1, vi x2]) ⟨[⟨true, (some (.cells [wsl 1, wsl 2, wsl 3, wsl 4]))⟩, ⟨true, (some (.tab [.fl .f32] x3))⟩, ⟨true, (some (.tab [.fl .f32] x4))⟩, ⟨true, (some (.tab sc0 x5))⟩, ⟨true, (some (.tab sc1 x6))⟩], 5, []⟩ = firstT ([((Nat.beq ((r38l0 (m + 1) x0 x1 x2 x3 x4 x5 x6).1) 0), .exit 0, [vp 0, .string ((r38l0 (m + 1) x0 x1 x2 x3 x4 x5 x6).2)], ⟨[⟨true, (some (.cells [wsl 1, wsl 2, wsl 3, wsl 4]))⟩, ⟨true, (some (.tab [.fl .f32] x3))⟩, ⟨true, (some (.tab [.fl .f32] x4))⟩, ⟨true, (some (.tab sc0 x5))⟩, ⟨true, (some (.tab sc1 x6))⟩], 5, []⟩)].map fun (b, x) => (b, (x.1, frameOf 99 [1, 3] x.2.1, x.2.2))) :=
 (show evC Tryd.prog ext T39 noL 200 (loopN Tryd.f38 0) (loopTail ([1, 3, 14, 15, 16], []) [1, 3] [] (sumK 99 [1, 3, 14, 15, 16] [1, 3] (q38l0 m))) (frameOf 99 [1, 3, 14, 15, 16] [vp 0, .string x0, wsl 1, vi x1, vi x2]) ⟨[⟨true, (some (.cells [wsl 1, wsl 2, wsl 3, wsl 4]))⟩, ⟨true, (some (.tab [.fl .f32] x3))⟩, ⟨true, (some (.tab [.fl .f32] x4))⟩, ⟨true, (some (.tab sc0 x5))⟩, ⟨true, (some (.tab sc1 x6))⟩], 5, []⟩ = w38l0 (r38l0 m) x0 x1 x2 x3 x4 x5 x6 from by kernel_rfl).trans
 (show w38l0 (r38l0 m) x0 x1 x2 x3 x4 x5 x6 = a38l0 x0 x1 x2 x3 x4 x5 x6 (r38l0 (m + 1) x0 x1 x2 x3 x4 x5 x6) from by unfold w38l0; show _ = a38l0 x0 x1 x2 x3 x4 x5 x6 (b38l0 (r38l0 m) x0 x1 x2 x3 x4 x5 x6); unfold b38l0; exact (cond_both (a38l0 x0 x1 x2 x3 x4 x5 x6) _ (fun h0 => (cond_both (a38l0 x0 x1 x2 x3 x4 x5 x6) _ (fun h1 => (cond_t (ev_and2 h1) (cond_both (a38l0 x0 x1 x2 x3 x4 x5 x6) _ (fun h2 => (cond_both (a38l0 x0 x1 x2 x3 x4 x5 x6) _ (fun h3 => (cond_both (a38l0 x0 x1 x2 x3 x4 x5 x6) _ (fun h4 => (cond_both (a38l0 x0 x1 x2 x3 x4 x5 x6) _ (fun h5 => (cond_t (ev_and2 h5) (cond_app (a38l0 x0 x1 x2 x3 x4 x5 x6) _ (cond_app (a38l0 x0 x1 x2 x3 x4 x5 x6) _ (cond_app (a38l0 x0 x1 x2 x3 x4 x5 x6) _ (cond_app (a38l0 x0 x1 x2 x3 x4 x5 x6) _ (v38l0 x0 x1 x2 x3 x4 x5 x6 ((r38l0 m) (x0 ++ (((((ByteArray.mk #[114, 111, 111, 109, 32]) ++ ((r25 (Int.toNat ((x3.getD (Int.toNat x2) []).getD 0 0))).2)) ++ (ByteArray.mk #[32])) ++ ((r25 (Int.toNat ((x4.getD (Int.toNat x2) []).getD 0 0))).2)) ++ (ByteArray.mk #[10]))) x1 (IntKind.i64.wrap (x2 + 1)) x3 x4 x5 x6)) rfl) rfl) rfl) rfl))) (fun h5 => rfl))) (fun h4 => rfl))) (fun h3 => rfl))) (fun h2 => rfl)))) (fun h1 => rfl))) (fun h0 => rfl)))
set_option maxRecDepth 100000 in
set_option maxHeartbeats 4000000 in
theorem qm38l0 : ∀ m, SumKOk Tryd.prog (loopN Tryd.f38 0) 99 [1, 3, 14, 15, 16] [1, 3] (q38l0 m) := by
  intro m
  induction m with
  | zero =>
    intro vals s x h1 h2 h3
    unfold q38l0 at h3; split at h3
    · rename_i h; split at h3
      · rename_i hc; obtain ⟨rfl, rfl, rfl, rfl, rfl, rfl, rfl, rfl⟩ := hc; exact absurd h3 (by simp [r38l0, firstT, Nat.beq])
      · exact noQ_ok _ _ _ h1 h2 h3
    · exact noQ_ok _ _ _ h1 h2 h3
  | succ m ih =>
    intro vals s x h1 h2 h3
    unfold q38l0 at h3; split at h3
    · rename_i h; split at h3
      · rename_i hc; obtain ⟨rfl, rfl, rfl, rfl, rfl, rfl, rfl, rfl⟩ := hc; exact sum_step ok39 extOk mixed ((lfOkF_no _ _).inner (by kernel_rfl)) ih h1 h2 h (e38l0 m _ _ _ _ _ _ _) rfl h3
      · exact noQ_ok _ _ _ h1 h2 h3
    · exact noQ_ok _ _ _ h1 h2 h3
noncomputable def Q38l0 : SumK := fun vals s => q38l0 (fuelOf vals s.h) vals s
theorem qok38l0 : SumKOk Tryd.prog (loopN Tryd.f38 0) 99 [1, 3, 14, 15, 16] [1, 3] Q38l0 := fuel_ok qm38l0 fuelOf
noncomputable def L38_1 : LoopT := addL noL 4 ([1, 3, 14, 15, 16], []) (sumK 99 [1, 3, 14, 15, 16] [1, 3] Q38l0)
theorem lok38_1 : LfOkF Tryd.prog L38_1 Tryd.f38 := lfOkF_add (lfOkF_no _ _) qok38l0 (by kernel_rfl) (by kernel_rfl) (by kernel_rfl)

/-- impl.sideText -/
noncomputable def w72 {α : Type} (x0 : Int) (k : (Nat × ByteArray) → α) : α :=
 cond ((x0 : Int) == (-1))
  (k (0, (ByteArray.mk #[45])))
  (cond (decide ((0 : Int) ≤ x0) && decide (x0 < 100))
   (k (0, (digB x0)))
   (k (1, ByteArray.empty)))
noncomputable def r72 (x0 : Int) : Nat × ByteArray := w72 x0 (fun p => p)
noncomputable def g72 (x0 : Int) (p : Nat × ByteArray) : List (Bool × Value × St) := [((Nat.beq (p.1) 0), .string (p.2), st0)]
theorem p72 {α : Type} (x0 : Int) (f : (Nat × ByteArray) → α) : w72 x0 f = f (w72 x0 (fun p => p)) := by unfold w72; exact (cond_app f _ rfl (cond_app f _ rfl rfl))
set_option maxRecDepth 100000 in
set_option maxHeartbeats 4000000 in
theorem e72 (x0 : Int) : evFn Tryd.prog ext T39 noL 200 Tryd.f72 [vi x0] st0 = firstT (g72 x0 (r72 x0)) :=
 Eq.trans (by kernel_rfl) (p72 x0 (fun p => firstT (g72 x0 p)))
noncomputable def s72 (args : List Value) (s : St) : List (Bool × Value × St) :=
 match args, s.h with
 | [.int .i64 x0], [] => (g72 x0 (r72 x0))
 | _, _ => T39 72 args s
noncomputable def T40 : CallF := addF T39 72 s72
set_option maxRecDepth 100000 in
set_option maxHeartbeats 4000000 in
theorem ok40 : CfOk Tryd.prog T40 := by
  refine cfOk_add ok39 fun args s r s' h1 h2 h3 => ?_
  unfold s72 at h3; split at h3
  · rename_i h; exact callOk ok39 Tryd.func72 h1 h2 h (lfOkF_no _ _).body (e72 _) rfl h3
  · exact ok39 _ _ _ _ _ h1 h2 h3

/-- impl.flatText, loop 1: one round -/
noncomputable def b38l1 (ih : ByteArray → Int → Int → List (List Int) → List (List Int) → List (List Int) → List (List Int) → (Nat × ByteArray)) (x0 : ByteArray) (x1 x2 : Int) (x3 x4 x5 x6 : List (List Int)) : Nat × ByteArray :=
 let c732 := (r72 ((x3.getD (Int.toNat x2) []).getD 1 0))
 let c733 := (r25 (Int.toNat ((x3.getD (Int.toNat x2) []).getD 2 0)))
 let c734 := (r25 (Int.toNat ((x3.getD (Int.toNat x2) []).getD 3 0)))
 let c735 := (r25 (Int.toNat ((x3.getD (Int.toNat x2) []).getD 4 0)))
 let c736 := (r25 (Int.toNat ((x3.getD (Int.toNat x2) []).getD 5 0)))
 let c737 := (r25 (Int.toNat ((x3.getD (Int.toNat x2) []).getD 6 0)))
 let c738 := (r25 (Int.toNat ((x3.getD (Int.toNat x2) []).getD 7 0)))
 cond (decide ((x2 : Int) < x1))
  (cond ((decide ((0 : Int) ≤ x2)) && (Nat.blt (Int.toNat x2) x3.length))
   (cond (decide ((0 : Int) ≤ ((x3.getD (Int.toNat x2) []).getD 0 0)) && decide (((x3.getD (Int.toNat x2) []).getD 0 0) < 100))
    (cond (Nat.beq (c732.1) 0)
     (cond (Nat.beq (c733.1) 0)
      (cond (Nat.beq (c734.1) 0)
       (cond (Nat.beq (c735.1) 0)
        (cond (Nat.beq (c736.1) 0)
         (cond (Nat.beq (c737.1) 0)
          (cond (Nat.beq (c738.1) 0)
           (cond (joinOk ([(ByteArray.mk #[119, 97, 108, 108]), (digB ((x3.getD (Int.toNat x2) []).getD 0 0)), (c732.2), (c733.2), (c734.2), (c735.2), (c736.2), (c737.2), (c738.2)] : List ByteArray) (ByteArray.mk #[32]))
            (cond (decide ((joinB ([(ByteArray.mk #[119, 97, 108, 108]), (digB ((x3.getD (Int.toNat x2) []).getD 0 0)), (c732.2), (c733.2), (c734.2), (c735.2), (c736.2), (c737.2), (c738.2)] : List ByteArray) (ByteArray.mk #[32])).size + 1 ≤ strMax))
             (cond (decide (x0.size + ((joinB ([(ByteArray.mk #[119, 97, 108, 108]), (digB ((x3.getD (Int.toNat x2) []).getD 0 0)), (c732.2), (c733.2), (c734.2), (c735.2), (c736.2), (c737.2), (c738.2)] : List ByteArray) (ByteArray.mk #[32])) ++ (ByteArray.mk #[10])).size ≤ strMax))
              (ih (x0 ++ ((joinB ([(ByteArray.mk #[119, 97, 108, 108]), (digB ((x3.getD (Int.toNat x2) []).getD 0 0)), (c732.2), (c733.2), (c734.2), (c735.2), (c736.2), (c737.2), (c738.2)] : List ByteArray) (ByteArray.mk #[32])) ++ (ByteArray.mk #[10]))) x1 (IntKind.i64.wrap (x2 + 1)) x3 x4 x5 x6)
              (1, ByteArray.empty))
             (1, ByteArray.empty))
            (1, ByteArray.empty))
           (1, ByteArray.empty))
          (1, ByteArray.empty))
         (1, ByteArray.empty))
        (1, ByteArray.empty))
       (1, ByteArray.empty))
      (1, ByteArray.empty))
     (1, ByteArray.empty))
    (1, ByteArray.empty))
   (1, ByteArray.empty))
  (0, x0)
noncomputable def r38l1 : Nat → ByteArray → Int → Int → List (List Int) → List (List Int) → List (List Int) → List (List Int) → (Nat × ByteArray)
 | 0 => fun _ _ _ _ _ _ _ => (1, ByteArray.empty)
 | m + 1 => b38l1 (r38l1 m)
noncomputable def a38l1 (x0 : ByteArray) (x1 x2 : Int) (x3 x4 x5 x6 : List (List Int)) (p : Nat × ByteArray) : Option (Fin' × List Value × St) := firstT ([((Nat.beq (p.1) 0), .exit 2, [vp 0, .string (p.2)], ⟨[⟨true, (some (.cells [wsl 2, wsl 3, wsl 1, wsl 4]))⟩, ⟨true, (some (.tab sc0 x3))⟩, ⟨true, (some (.tab [.fl .f32] x4))⟩, ⟨true, (some (.tab [.fl .f32] x5))⟩, ⟨true, (some (.tab sc1 x6))⟩], 5, []⟩)].map fun (b, x) => (b, (x.1, frameOf 99 [1, 3] x.2.1, x.2.2)))
noncomputable def u38l1 (x0 : ByteArray) (x1 x2 : Int) (x3 x4 x5 x6 : List (List Int)) (p : Nat × ByteArray) : Option (Fin' × List Value × St) := alts ([((Nat.beq (p.1) 0), .exit 2, [vp 0, .string (p.2)], ⟨[⟨true, (some (.cells [wsl 2, wsl 3, wsl 1, wsl 4]))⟩, ⟨true, (some (.tab sc0 x3))⟩, ⟨true, (some (.tab [.fl .f32] x4))⟩, ⟨true, (some (.tab [.fl .f32] x5))⟩, ⟨true, (some (.tab sc1 x6))⟩], 5, []⟩)].map fun (b, x) => (b, (x.1, frameOf 99 [1, 3] x.2.1, x.2.2))) some
theorem v38l1 (x0 : ByteArray) (x1 x2 : Int) (x3 x4 x5 x6 : List (List Int)) (p : Nat × ByteArray) : u38l1 x0 x1 x2 x3 x4 x5 x6 p = a38l1 x0 x1 x2 x3 x4 x5 x6 p := alts_first _
noncomputable def q38l1 (m : Nat) : SumK := fun vals s =>
 match vals, s.h with
 | [.pointer (some ⟨f0, f1, some f2⟩), .string x0, .iface f3 .nilIface, .int .i64 x1, .int .i64 x2], [⟨true, some (.cells [.iface f4 .nilIface, .iface f5 .nilIface, .iface f6 .nilIface, .iface f7 .nilIface])⟩, ⟨true, some (.tab [.int .i64, .int .i64, .fl .f32, .fl .f32, .fl .f32, .fl .f32, .fl .f32, .fl .f32] x3)⟩, ⟨true, some (.tab [.fl .f32] x4)⟩, ⟨true, some (.tab [.fl .f32] x5)⟩, ⟨true, some (.tab [.int .i64, .int .i64, .fl .f32, .fl .f32] x6)⟩] => if f0 = 0 ∧ f1 = 0 ∧ f2 = 0 ∧ f3 = 1 ∧ f4 = 2 ∧ f5 = 3 ∧ f6 = 1 ∧ f7 = 4 then [((Nat.beq ((r38l1 m x0 x1 x2 x3 x4 x5 x6).1) 0), .exit 2, [vp 0, .string ((r38l1 m x0 x1 x2 x3 x4 x5 x6).2)], ⟨[⟨true, (some (.cells [wsl 2, wsl 3, wsl 1, wsl 4]))⟩, ⟨true, (some (.tab sc0 x3))⟩, ⟨true, (some (.tab [.fl .f32] x4))⟩, ⟨true, (some (.tab [.fl .f32] x5))⟩, ⟨true, (some (.tab sc1 x6))⟩], 5, []⟩)] else noQ vals s
 | _, _ => noQ vals s
noncomputable def w38l1 (ih : ByteArray → Int → Int → List (List Int) → List (List Int) → List (List Int) → List (List Int) → (Nat × ByteArray)) (x0 : ByteArray) (x1 x2 : Int) (x3 x4 x5 x6 : List (List Int)) : Option (Fin' × List Value × St) :=
 let c732 := (r72 ((x3.getD (Int.toNat x2) []).getD 1 0))
 let c733 := (r25 (Int.toNat ((x3.getD (Int.toNat x2) []).getD 2 0)))
 let c734 := (r25 (Int.toNat ((x3.getD (Int.toNat x2) []).getD 3 0)))
 let c735 := (r25 (Int.toNat ((x3.getD (Int.toNat x2) []).getD 4 0)))
 let c736 := (r25 (Int.toNat ((x3.getD (Int.toNat x2) []).getD 5 0)))
 let c737 := (r25 (Int.toNat ((x3.getD (Int.toNat x2) []).getD 6 0)))
 let c738 := (r25 (Int.toNat ((x3.getD (Int.toNat x2) []).getD 7 0)))
 (cond (decide ((x2 : Int) < x1))
 (cond ((decide ((0 : Int) ≤ x2)) && (Nat.blt (Int.toNat x2) x3.length))
  (cond (Nat.blt (Int.toNat x2) x3.length)
   (cond (decide ((0 : Int) ≤ ((x3.getD (Int.toNat x2) []).getD 0 0)) && decide (((x3.getD (Int.toNat x2) []).getD 0 0) < 100))
    (cond (Nat.beq (c732.1) 0)
     (cond (Nat.beq (c733.1) 0)
      (cond (Nat.beq (c734.1) 0)
       (cond (Nat.beq (c735.1) 0)
        (cond (Nat.beq (c736.1) 0)
         (cond (Nat.beq (c737.1) 0)
          (cond (Nat.beq (c738.1) 0)
           (cond (joinOk ([(ByteArray.mk #[119, 97, 108, 108]), (digB ((x3.getD (Int.toNat x2) []).getD 0 0)), (c732.2), (c733.2), (c734.2), (c735.2), (c736.2), (c737.2), (c738.2)] : List ByteArray) (ByteArray.mk #[32]))
            (cond (decide ((joinB ([(ByteArray.mk #[119, 97, 108, 108]), (digB ((x3.getD (Int.toNat x2) []).getD 0 0)), (c732.2), (c733.2), (c734.2), (c735.2), (c736.2), (c737.2), (c738.2)] : List ByteArray) (ByteArray.mk #[32])).size + 1 ≤ strMax))
             (cond (decide (x0.size + ((joinB ([(ByteArray.mk #[119, 97, 108, 108]), (digB ((x3.getD (Int.toNat x2) []).getD 0 0)), (c732.2), (c733.2), (c734.2), (c735.2), (c736.2), (c737.2), (c738.2)] : List ByteArray) (ByteArray.mk #[32])) ++ (ByteArray.mk #[10])).size ≤ strMax))
              (u38l1 x0 x1 x2 x3 x4 x5 x6 (ih (x0 ++ ((joinB ([(ByteArray.mk #[119, 97, 108, 108]), (digB ((x3.getD (Int.toNat x2) []).getD 0 0)), (c732.2), (c733.2), (c734.2), (c735.2), (c736.2), (c737.2), (c738.2)] : List ByteArray) (ByteArray.mk #[32])) ++ (ByteArray.mk #[10]))) x1 (IntKind.i64.wrap (x2 + 1)) x3 x4 x5 x6))
              none)
             none)
            none)
           none)
          none)
         none)
        none)
       none)
      none)
     none)
    none)
   none)
  none)
 (a38l1 x0 x1 x2 x3 x4 x5 x6 (0, x0)))
set_option maxRecDepth 100000 in
set_option maxHeartbeats 4000000 in
theorem e38l1 (m : Nat) (x0 : ByteArray) (x1 x2 : Int) (x3 x4 x5 x6 : List (List Int)) : evC Tryd.prog ext T40 L38_1 200 (loopN Tryd.f38 1) (loopTail ([1, 3, 37, 38, 39], []) [1, 3] [] (sumK 99 [1, 3, 37, 38, 39] [1, 3] (q38l1 m))) (frameOf 99 [1, 3, 37, 38, 39] [vp 0, .string x0, wsl 1, vi x1, vi x2]) ⟨[⟨true, (some (.cells [wsl 2, wsl 3, wsl 1, wsl 4]))⟩, ⟨true, (some (.tab sc0 x3))⟩, ⟨true, (some (.tab [.fl .f32] x4))⟩, ⟨true, (some (.tab [.fl .f32] x5))⟩, ⟨true, (some (.tab sc1 x6))⟩], 5, []⟩ = firstT ([((Nat.beq ((r38l1 (m + 1) x0 x1 x2 x3 x4 x5 x6).1) 0), .exit 2, [vp 0, .string ((r38l1 (m + 1) x0 x1 x2 x3 x4 x5 x6).2)], ⟨[⟨true, (some (.cells [wsl 2, wsl 3, wsl 1, wsl 4]))⟩, ⟨true, (some (.tab sc0 x3))⟩, ⟨true, (some (.tab [.fl .f32] x4))⟩, ⟨true, (some (.tab [.fl .f32] x5))⟩, ⟨true, (some (.tab sc1 x6))⟩], 5, []⟩)].map fun (b, x) => (b, (x.1, frameOf 99 [1, 3] x.2.1, x.2.2))) :=
 (show evC Tryd.prog ext T40 L38_1 200 (loopN Tryd.f38 1) (loopTail ([1, 3, 37, 38, 39], []) [1, 3] [] (sumK 99 [1, 3, 37, 38, 39] [1, 3] (q38l1 m))) (frameOf 99 [1, 3, 37, 38, 39] [vp 0, .string x0, wsl 1, vi x1, vi x2]) ⟨[⟨true, (some (.cells [wsl 2, wsl 3, wsl 1, wsl 4]))⟩, ⟨true, (some (.tab sc0 x3))⟩, ⟨true, (some (.tab [.fl .f32] x4))⟩, ⟨true, (some (.tab [.fl .f32] x5))⟩, ⟨true, (some (.tab sc1 x6))⟩], 5, []⟩ = w38l1 (r38l1 m) x0 x1 x2 x3 x4 x5 x6 from by kernel_rfl).trans
 (show w38l1 (r38l1 m) x0 x1 x2 x3 x4 x5 x6 = a38l1 x0 x1 x2 x3 x4 x5 x6 (r38l1 (m + 1) x0 x1 x2 x3 x4 x5 x6) from by unfold w38l1; show _ = a38l1 x0 x1 x2 x3 x4 x5 x6 (b38l1 (r38l1 m) x0 x1 x2 x3 x4 x5 x6); unfold b38l1; exact (cond_both (a38l1 x0 x1 x2 x3 x4 x5 x6) _ (fun h0 => (cond_both (a38l1 x0 x1 x2 x3 x4 x5 x6) _ (fun h1 => (cond_t (ev_and2 h1) (cond_app (a38l1 x0 x1 x2 x3 x4 x5 x6) _ (cond_app (a38l1 x0 x1 x2 x3 x4 x5 x6) _ (cond_app (a38l1 x0 x1 x2 x3 x4 x5 x6) _ (cond_app (a38l1 x0 x1 x2 x3 x4 x5 x6) _ (cond_app (a38l1 x0 x1 x2 x3 x4 x5 x6) _ (cond_app (a38l1 x0 x1 x2 x3 x4 x5 x6) _ (cond_app (a38l1 x0 x1 x2 x3 x4 x5 x6) _ (cond_app (a38l1 x0 x1 x2 x3 x4 x5 x6) _ (cond_app (a38l1 x0 x1 x2 x3 x4 x5 x6) _ (cond_app (a38l1 x0 x1 x2 x3 x4 x5 x6) _ (cond_app (a38l1 x0 x1 x2 x3 x4 x5 x6) _ (v38l1 x0 x1 x2 x3 x4 x5 x6 ((r38l1 m) (x0 ++ ((joinB ([(ByteArray.mk #[119, 97, 108, 108]), (digB ((x3.getD (Int.toNat x2) []).getD 0 0)), ((r72 ((x3.getD (Int.toNat x2) []).getD 1 0)).2), ((r25 (Int.toNat ((x3.getD (Int.toNat x2) []).getD 2 0))).2), ((r25 (Int.toNat ((x3.getD (Int.toNat x2) []).getD 3 0))).2), ((r25 (Int.toNat ((x3.getD (Int.toNat x2) []).getD 4 0))).2), ((r25 (Int.toNat ((x3.getD (Int.toNat x2) []).getD 5 0))).2), ((r25 (Int.toNat ((x3.getD (Int.toNat x2) []).getD 6 0))).2), ((r25 (Int.toNat ((x3.getD (Int.toNat x2) []).getD 7 0))).2)] : List ByteArray) (ByteArray.mk #[32])) ++ (ByteArray.mk #[10]))) x1 (IntKind.i64.wrap (x2 + 1)) x3 x4 x5 x6)) rfl) rfl) rfl) rfl) rfl) rfl) rfl) rfl) rfl) rfl) rfl))) (fun h1 => rfl))) (fun h0 => rfl)))
set_option maxRecDepth 100000 in
set_option maxHeartbeats 4000000 in
theorem qm38l1 : ∀ m, SumKOk Tryd.prog (loopN Tryd.f38 1) 99 [1, 3, 37, 38, 39] [1, 3] (q38l1 m) := by
  intro m
  induction m with
  | zero =>
    intro vals s x h1 h2 h3
    unfold q38l1 at h3; split at h3
    · rename_i h; split at h3
      · rename_i hc; obtain ⟨rfl, rfl, rfl, rfl, rfl, rfl, rfl, rfl⟩ := hc; exact absurd h3 (by simp [r38l1, firstT, Nat.beq])
      · exact noQ_ok _ _ _ h1 h2 h3
    · exact noQ_ok _ _ _ h1 h2 h3
  | succ m ih =>
    intro vals s x h1 h2 h3
    unfold q38l1 at h3; split at h3
    · rename_i h; split at h3
      · rename_i hc; obtain ⟨rfl, rfl, rfl, rfl, rfl, rfl, rfl, rfl⟩ := hc; exact sum_step ok40 extOk mixed (lok38_1.inner (by kernel_rfl)) ih h1 h2 h (e38l1 m _ _ _ _ _ _ _) rfl h3
      · exact noQ_ok _ _ _ h1 h2 h3
    · exact noQ_ok _ _ _ h1 h2 h3
noncomputable def Q38l1 : SumK := fun vals s => q38l1 (fuelOf vals s.h) vals s
theorem qok38l1 : SumKOk Tryd.prog (loopN Tryd.f38 1) 99 [1, 3, 37, 38, 39] [1, 3] Q38l1 := fuel_ok qm38l1 fuelOf
noncomputable def L38_2 : LoopT := addL L38_1 9 ([1, 3, 37, 38, 39], []) (sumK 99 [1, 3, 37, 38, 39] [1, 3] Q38l1)
theorem lok38_2 : LfOkF Tryd.prog L38_2 Tryd.f38 := lfOkF_add lok38_1 qok38l1 (by kernel_rfl) (by kernel_rfl) (by kernel_rfl)

/-- impl.flatText, loop 3: one round -/
noncomputable def b38l3 (ih : ByteArray → Int → Int → List (List Int) → (Nat × ByteArray)) (x0 : ByteArray) (x1 x2 : Int) (x3 : List (List Int)) : Nat × ByteArray :=
 let c732 := (r72 ((x3.getD (Int.toNat x2) []).getD 1 0))
 let c733 := (r25 (Int.toNat ((x3.getD (Int.toNat x2) []).getD 2 0)))
 let c734 := (r25 (Int.toNat ((x3.getD (Int.toNat x2) []).getD 3 0)))
 cond (decide ((x2 : Int) < x1))
  (cond ((decide ((0 : Int) ≤ x2)) && (Nat.blt (Int.toNat x2) x3.length))
   (cond (decide ((0 : Int) ≤ ((x3.getD (Int.toNat x2) []).getD 0 0)) && decide (((x3.getD (Int.toNat x2) []).getD 0 0) < 100))
    (cond (Nat.beq (c732.1) 0)
     (cond (Nat.beq (c733.1) 0)
      (cond (Nat.beq (c734.1) 0)
       (cond (joinOk ([(ByteArray.mk #[112, 97, 110, 101]), (digB ((x3.getD (Int.toNat x2) []).getD 0 0)), (c732.2), (c733.2), (c734.2)] : List ByteArray) (ByteArray.mk #[32]))
        (cond (decide ((joinB ([(ByteArray.mk #[112, 97, 110, 101]), (digB ((x3.getD (Int.toNat x2) []).getD 0 0)), (c732.2), (c733.2), (c734.2)] : List ByteArray) (ByteArray.mk #[32])).size + 1 ≤ strMax))
         (cond (decide (x0.size + ((joinB ([(ByteArray.mk #[112, 97, 110, 101]), (digB ((x3.getD (Int.toNat x2) []).getD 0 0)), (c732.2), (c733.2), (c734.2)] : List ByteArray) (ByteArray.mk #[32])) ++ (ByteArray.mk #[10])).size ≤ strMax))
          (ih (x0 ++ ((joinB ([(ByteArray.mk #[112, 97, 110, 101]), (digB ((x3.getD (Int.toNat x2) []).getD 0 0)), (c732.2), (c733.2), (c734.2)] : List ByteArray) (ByteArray.mk #[32])) ++ (ByteArray.mk #[10]))) x1 (IntKind.i64.wrap (x2 + 1)) x3)
          (1, ByteArray.empty))
         (1, ByteArray.empty))
        (1, ByteArray.empty))
       (1, ByteArray.empty))
      (1, ByteArray.empty))
     (1, ByteArray.empty))
    (1, ByteArray.empty))
   (1, ByteArray.empty))
  (0, x0)
noncomputable def r38l3 : Nat → ByteArray → Int → Int → List (List Int) → (Nat × ByteArray)
 | 0 => fun _ _ _ _ => (1, ByteArray.empty)
 | m + 1 => b38l3 (r38l3 m)
noncomputable def a38l3 (x0 : ByteArray) (x1 x2 : Int) (x3 : List (List Int)) (p : Nat × ByteArray) : Option (Fin' × List Value × St) := firstT ([((Nat.beq (p.1) 0), .exit 6, [.string (p.2)], ⟨[⟨true, (some (.tab sc1 x3))⟩], 1, []⟩)].map fun (b, x) => (b, (x.1, frameOf 99 [3] x.2.1, x.2.2)))
noncomputable def u38l3 (x0 : ByteArray) (x1 x2 : Int) (x3 : List (List Int)) (p : Nat × ByteArray) : Option (Fin' × List Value × St) := alts ([((Nat.beq (p.1) 0), .exit 6, [.string (p.2)], ⟨[⟨true, (some (.tab sc1 x3))⟩], 1, []⟩)].map fun (b, x) => (b, (x.1, frameOf 99 [3] x.2.1, x.2.2))) some
theorem v38l3 (x0 : ByteArray) (x1 x2 : Int) (x3 : List (List Int)) (p : Nat × ByteArray) : u38l3 x0 x1 x2 x3 p = a38l3 x0 x1 x2 x3 p := alts_first _
noncomputable def q38l3 (m : Nat) : SumK := fun vals s =>
 match vals, s.h with
 | [.string x0, .iface f0 .nilIface, .int .i64 x1, .int .i64 x2], [⟨true, some (.tab [.int .i64, .int .i64, .fl .f32, .fl .f32] x3)⟩] => if f0 = 0 then [((Nat.beq ((r38l3 m x0 x1 x2 x3).1) 0), .exit 6, [.string ((r38l3 m x0 x1 x2 x3).2)], ⟨[⟨true, (some (.tab sc1 x3))⟩], 1, []⟩)] else noQ vals s
 | _, _ => noQ vals s
noncomputable def w38l3 (ih : ByteArray → Int → Int → List (List Int) → (Nat × ByteArray)) (x0 : ByteArray) (x1 x2 : Int) (x3 : List (List Int)) : Option (Fin' × List Value × St) :=
 let c732 := (r72 ((x3.getD (Int.toNat x2) []).getD 1 0))
 let c733 := (r25 (Int.toNat ((x3.getD (Int.toNat x2) []).getD 2 0)))
 let c734 := (r25 (Int.toNat ((x3.getD (Int.toNat x2) []).getD 3 0)))
 (cond (decide ((x2 : Int) < x1))
 (cond ((decide ((0 : Int) ≤ x2)) && (Nat.blt (Int.toNat x2) x3.length))
  (cond (Nat.blt (Int.toNat x2) x3.length)
   (cond (decide ((0 : Int) ≤ ((x3.getD (Int.toNat x2) []).getD 0 0)) && decide (((x3.getD (Int.toNat x2) []).getD 0 0) < 100))
    (cond (Nat.beq (c732.1) 0)
     (cond (Nat.beq (c733.1) 0)
      (cond (Nat.beq (c734.1) 0)
       (cond (joinOk ([(ByteArray.mk #[112, 97, 110, 101]), (digB ((x3.getD (Int.toNat x2) []).getD 0 0)), (c732.2), (c733.2), (c734.2)] : List ByteArray) (ByteArray.mk #[32]))
        (cond (decide ((joinB ([(ByteArray.mk #[112, 97, 110, 101]), (digB ((x3.getD (Int.toNat x2) []).getD 0 0)), (c732.2), (c733.2), (c734.2)] : List ByteArray) (ByteArray.mk #[32])).size + 1 ≤ strMax))
         (cond (decide (x0.size + ((joinB ([(ByteArray.mk #[112, 97, 110, 101]), (digB ((x3.getD (Int.toNat x2) []).getD 0 0)), (c732.2), (c733.2), (c734.2)] : List ByteArray) (ByteArray.mk #[32])) ++ (ByteArray.mk #[10])).size ≤ strMax))
          (u38l3 x0 x1 x2 x3 (ih (x0 ++ ((joinB ([(ByteArray.mk #[112, 97, 110, 101]), (digB ((x3.getD (Int.toNat x2) []).getD 0 0)), (c732.2), (c733.2), (c734.2)] : List ByteArray) (ByteArray.mk #[32])) ++ (ByteArray.mk #[10]))) x1 (IntKind.i64.wrap (x2 + 1)) x3))
          none)
         none)
        none)
       none)
      none)
     none)
    none)
   none)
  none)
 (a38l3 x0 x1 x2 x3 (0, x0)))
set_option maxRecDepth 100000 in
set_option maxHeartbeats 4000000 in
theorem e38l3 (m : Nat) (x0 : ByteArray) (x1 x2 : Int) (x3 : List (List Int)) : evC Tryd.prog ext T40 L38_2 200 (loopN Tryd.f38 3) (loopTail ([3, 74, 75, 76], []) [3] [] (sumK 99 [3, 74, 75, 76] [3] (q38l3 m))) (frameOf 99 [3, 74, 75, 76] [.string x0, wsl 0, vi x1, vi x2]) ⟨[⟨true, (some (.tab sc1 x3))⟩], 1, []⟩ = firstT ([((Nat.beq ((r38l3 (m + 1) x0 x1 x2 x3).1) 0), .exit 6, [.string ((r38l3 (m + 1) x0 x1 x2 x3).2)], ⟨[⟨true, (some (.tab sc1 x3))⟩], 1, []⟩)].map fun (b, x) => (b, (x.1, frameOf 99 [3] x.2.1, x.2.2))) :=
 (show evC Tryd.prog ext T40 L38_2 200 (loopN Tryd.f38 3) (loopTail ([3, 74, 75, 76], []) [3] [] (sumK 99 [3, 74, 75, 76] [3] (q38l3 m))) (frameOf 99 [3, 74, 75, 76] [.string x0, wsl 0, vi x1, vi x2]) ⟨[⟨true, (some (.tab sc1 x3))⟩], 1, []⟩ = w38l3 (r38l3 m) x0 x1 x2 x3 from by kernel_rfl).trans
 (show w38l3 (r38l3 m) x0 x1 x2 x3 = a38l3 x0 x1 x2 x3 (r38l3 (m + 1) x0 x1 x2 x3) from by unfold w38l3; show _ = a38l3 x0 x1 x2 x3 (b38l3 (r38l3 m) x0 x1 x2 x3); unfold b38l3; exact (cond_both (a38l3 x0 x1 x2 x3) _ (fun h0 => (cond_both (a38l3 x0 x1 x2 x3) _ (fun h1 => (cond_t (ev_and2 h1) (cond_app (a38l3 x0 x1 x2 x3) _ (cond_app (a38l3 x0 x1 x2 x3) _ (cond_app (a38l3 x0 x1 x2 x3) _ (cond_app (a38l3 x0 x1 x2 x3) _ (cond_app (a38l3 x0 x1 x2 x3) _ (cond_app (a38l3 x0 x1 x2 x3) _ (cond_app (a38l3 x0 x1 x2 x3) _ (v38l3 x0 x1 x2 x3 ((r38l3 m) (x0 ++ ((joinB ([(ByteArray.mk #[112, 97, 110, 101]), (digB ((x3.getD (Int.toNat x2) []).getD 0 0)), ((r72 ((x3.getD (Int.toNat x2) []).getD 1 0)).2), ((r25 (Int.toNat ((x3.getD (Int.toNat x2) []).getD 2 0))).2), ((r25 (Int.toNat ((x3.getD (Int.toNat x2) []).getD 3 0))).2)] : List ByteArray) (ByteArray.mk #[32])) ++ (ByteArray.mk #[10]))) x1 (IntKind.i64.wrap (x2 + 1)) x3)) rfl) rfl) rfl) rfl) rfl) rfl) rfl))) (fun h1 => rfl))) (fun h0 => rfl)))
set_option maxRecDepth 100000 in
set_option maxHeartbeats 4000000 in
theorem qm38l3 : ∀ m, SumKOk Tryd.prog (loopN Tryd.f38 3) 99 [3, 74, 75, 76] [3] (q38l3 m) := by
  intro m
  induction m with
  | zero =>
    intro vals s x h1 h2 h3
    unfold q38l3 at h3; split at h3
    · rename_i h; split at h3
      · rename_i hc; obtain ⟨rfl⟩ := hc; exact absurd h3 (by simp [r38l3, firstT, Nat.beq])
      · exact noQ_ok _ _ _ h1 h2 h3
    · exact noQ_ok _ _ _ h1 h2 h3
  | succ m ih =>
    intro vals s x h1 h2 h3
    unfold q38l3 at h3; split at h3
    · rename_i h; split at h3
      · rename_i hc; obtain ⟨rfl⟩ := hc; exact sum_step ok40 extOk mixed (lok38_2.inner (by kernel_rfl)) ih h1 h2 h (e38l3 m _ _ _ _) rfl h3
      · exact noQ_ok _ _ _ h1 h2 h3
    · exact noQ_ok _ _ _ h1 h2 h3
noncomputable def Q38l3 : SumK := fun vals s => q38l3 (fuelOf vals s.h) vals s
theorem qok38l3 : SumKOk Tryd.prog (loopN Tryd.f38 3) 99 [3, 74, 75, 76] [3] Q38l3 := fuel_ok qm38l3 fuelOf
noncomputable def L38_3 : LoopT := addL L38_2 20 ([3, 74, 75, 76], []) (sumK 99 [3, 74, 75, 76] [3] Q38l3)
theorem lok38_3 : LfOkF Tryd.prog L38_3 Tryd.f38 := lfOkF_add lok38_2 qok38l3 (by kernel_rfl) (by kernel_rfl) (by kernel_rfl)
end Go.Proofs.YtffpnkkhcgjmfaaDoor
