/- What the functions that the statements reach answer, part 2. -/
import Derived.Test.YtffpnkkhcgjmfaaDoorPt1
namespace Go.Proofs.YtffpnkkhcgjmfaaDoor
open Go.Ab
set_option maxHeartbeats 4000000
set_option maxRecDepth 100000

/-- spec.ProgramText, loop 0: one round -/
noncomputable def b6l0 (ih : ByteArray → Int → List ByteArray → List (List Int) → (Nat × ByteArray)) (x0 : ByteArray) (x1 : Int) (x2 : List ByteArray) (x3 : List (List Int)) : Nat × ByteArray :=
 let c142 := (r19 (Int.toNat ((x3.getD (Int.toNat x1) []).getD 2 0)))
 let c143 := (r20 (IntKind.i64.wrap ((x3.getD (Int.toNat x1) []).getD 1 0)))
 cond (decide ((x1 : Int) < ((x3.length : Nat) : Int)))
  (cond ((decide ((0 : Int) ≤ x1)) && (Nat.blt (Int.toNat x1) x3.length))
   (cond ((decide ((0 : Int) ≤ ((x3.getD (Int.toNat x1) []).getD 0 0))) && (Nat.blt (Int.toNat ((x3.getD (Int.toNat x1) []).getD 0 0)) 13))
    (cond (Nat.blt (0 + (Int.toNat ((x3.getD (Int.toNat x1) []).getD 0 0))) 13)
     (cond (decide (x0.size + (([(ByteArray.mk #[]), (ByteArray.mk #[112, 117, 115, 104]), (ByteArray.mk #[105, 110, 112, 117, 116]), (ByteArray.mk #[108, 111, 97, 100]), (ByteArray.mk #[115, 116, 111, 114, 101]), (ByteArray.mk #[97, 100, 100]), (ByteArray.mk #[115, 117, 98]), (ByteArray.mk #[109, 117, 108]), (ByteArray.mk #[108, 101, 115, 115]), (ByteArray.mk #[109, 105, 110]), (ByteArray.mk #[109, 97, 120]), (ByteArray.mk #[112, 105, 99, 107]), (ByteArray.mk #[110, 101, 103])] : List ByteArray).getD (0 + (Int.toNat ((x3.getD (Int.toNat x1) []).getD 0 0))) .empty).size ≤ strMax))
      (cond ((((x3.getD (Int.toNat x1) []).getD 0 0) : Int) == 1)
       (cond (Nat.beq (c142.1) 0)
        (cond (decide (1 + (c142.2).size ≤ strMax))
         (cond (decide ((x0 ++ (([(ByteArray.mk #[]), (ByteArray.mk #[112, 117, 115, 104]), (ByteArray.mk #[105, 110, 112, 117, 116]), (ByteArray.mk #[108, 111, 97, 100]), (ByteArray.mk #[115, 116, 111, 114, 101]), (ByteArray.mk #[97, 100, 100]), (ByteArray.mk #[115, 117, 98]), (ByteArray.mk #[109, 117, 108]), (ByteArray.mk #[108, 101, 115, 115]), (ByteArray.mk #[109, 105, 110]), (ByteArray.mk #[109, 97, 120]), (ByteArray.mk #[112, 105, 99, 107]), (ByteArray.mk #[110, 101, 103])] : List ByteArray).getD (0 + (Int.toNat ((x3.getD (Int.toNat x1) []).getD 0 0))) .empty)).size + ((ByteArray.mk #[32]) ++ (c142.2)).size ≤ strMax))
          (cond (decide (((x0 ++ (([(ByteArray.mk #[]), (ByteArray.mk #[112, 117, 115, 104]), (ByteArray.mk #[105, 110, 112, 117, 116]), (ByteArray.mk #[108, 111, 97, 100]), (ByteArray.mk #[115, 116, 111, 114, 101]), (ByteArray.mk #[97, 100, 100]), (ByteArray.mk #[115, 117, 98]), (ByteArray.mk #[109, 117, 108]), (ByteArray.mk #[108, 101, 115, 115]), (ByteArray.mk #[109, 105, 110]), (ByteArray.mk #[109, 97, 120]), (ByteArray.mk #[112, 105, 99, 107]), (ByteArray.mk #[110, 101, 103])] : List ByteArray).getD (0 + (Int.toNat ((x3.getD (Int.toNat x1) []).getD 0 0))) .empty)) ++ ((ByteArray.mk #[32]) ++ (c142.2))).size + 1 ≤ strMax))
           (ih (((x0 ++ (([(ByteArray.mk #[]), (ByteArray.mk #[112, 117, 115, 104]), (ByteArray.mk #[105, 110, 112, 117, 116]), (ByteArray.mk #[108, 111, 97, 100]), (ByteArray.mk #[115, 116, 111, 114, 101]), (ByteArray.mk #[97, 100, 100]), (ByteArray.mk #[115, 117, 98]), (ByteArray.mk #[109, 117, 108]), (ByteArray.mk #[108, 101, 115, 115]), (ByteArray.mk #[109, 105, 110]), (ByteArray.mk #[109, 97, 120]), (ByteArray.mk #[112, 105, 99, 107]), (ByteArray.mk #[110, 101, 103])] : List ByteArray).getD (0 + (Int.toNat ((x3.getD (Int.toNat x1) []).getD 0 0))) .empty)) ++ ((ByteArray.mk #[32]) ++ (c142.2))) ++ (ByteArray.mk #[10])) (IntKind.i64.wrap (x1 + 1)) x2 x3)
           (1, ByteArray.empty))
          (1, ByteArray.empty))
         (1, ByteArray.empty))
        (1, ByteArray.empty))
       (cond ((((x3.getD (Int.toNat x1) []).getD 0 0) : Int) == 2)
        (cond (Nat.beq (c143.1) 0)
         (cond (decide (1 + (c143.2).size ≤ strMax))
          (cond (decide ((x0 ++ (([(ByteArray.mk #[]), (ByteArray.mk #[112, 117, 115, 104]), (ByteArray.mk #[105, 110, 112, 117, 116]), (ByteArray.mk #[108, 111, 97, 100]), (ByteArray.mk #[115, 116, 111, 114, 101]), (ByteArray.mk #[97, 100, 100]), (ByteArray.mk #[115, 117, 98]), (ByteArray.mk #[109, 117, 108]), (ByteArray.mk #[108, 101, 115, 115]), (ByteArray.mk #[109, 105, 110]), (ByteArray.mk #[109, 97, 120]), (ByteArray.mk #[112, 105, 99, 107]), (ByteArray.mk #[110, 101, 103])] : List ByteArray).getD (0 + (Int.toNat ((x3.getD (Int.toNat x1) []).getD 0 0))) .empty)).size + ((ByteArray.mk #[32]) ++ (c143.2)).size ≤ strMax))
           (cond (decide (((x0 ++ (([(ByteArray.mk #[]), (ByteArray.mk #[112, 117, 115, 104]), (ByteArray.mk #[105, 110, 112, 117, 116]), (ByteArray.mk #[108, 111, 97, 100]), (ByteArray.mk #[115, 116, 111, 114, 101]), (ByteArray.mk #[97, 100, 100]), (ByteArray.mk #[115, 117, 98]), (ByteArray.mk #[109, 117, 108]), (ByteArray.mk #[108, 101, 115, 115]), (ByteArray.mk #[109, 105, 110]), (ByteArray.mk #[109, 97, 120]), (ByteArray.mk #[112, 105, 99, 107]), (ByteArray.mk #[110, 101, 103])] : List ByteArray).getD (0 + (Int.toNat ((x3.getD (Int.toNat x1) []).getD 0 0))) .empty)) ++ ((ByteArray.mk #[32]) ++ (c143.2))).size + 1 ≤ strMax))
            (ih (((x0 ++ (([(ByteArray.mk #[]), (ByteArray.mk #[112, 117, 115, 104]), (ByteArray.mk #[105, 110, 112, 117, 116]), (ByteArray.mk #[108, 111, 97, 100]), (ByteArray.mk #[115, 116, 111, 114, 101]), (ByteArray.mk #[97, 100, 100]), (ByteArray.mk #[115, 117, 98]), (ByteArray.mk #[109, 117, 108]), (ByteArray.mk #[108, 101, 115, 115]), (ByteArray.mk #[109, 105, 110]), (ByteArray.mk #[109, 97, 120]), (ByteArray.mk #[112, 105, 99, 107]), (ByteArray.mk #[110, 101, 103])] : List ByteArray).getD (0 + (Int.toNat ((x3.getD (Int.toNat x1) []).getD 0 0))) .empty)) ++ ((ByteArray.mk #[32]) ++ (c143.2))) ++ (ByteArray.mk #[10])) (IntKind.i64.wrap (x1 + 1)) x2 x3)
            (1, ByteArray.empty))
           (1, ByteArray.empty))
          (1, ByteArray.empty))
         (1, ByteArray.empty))
        (cond ((((x3.getD (Int.toNat x1) []).getD 0 0) : Int) == 3)
         (cond ((decide ((0 : Int) ≤ ((x3.getD (Int.toNat x1) []).getD 1 0))) && (Nat.blt (Int.toNat ((x3.getD (Int.toNat x1) []).getD 1 0)) x2.length))
          (cond (decide (1 + (x2.getD (Int.toNat ((x3.getD (Int.toNat x1) []).getD 1 0)) .empty).size ≤ strMax))
           (cond (decide ((x0 ++ (([(ByteArray.mk #[]), (ByteArray.mk #[112, 117, 115, 104]), (ByteArray.mk #[105, 110, 112, 117, 116]), (ByteArray.mk #[108, 111, 97, 100]), (ByteArray.mk #[115, 116, 111, 114, 101]), (ByteArray.mk #[97, 100, 100]), (ByteArray.mk #[115, 117, 98]), (ByteArray.mk #[109, 117, 108]), (ByteArray.mk #[108, 101, 115, 115]), (ByteArray.mk #[109, 105, 110]), (ByteArray.mk #[109, 97, 120]), (ByteArray.mk #[112, 105, 99, 107]), (ByteArray.mk #[110, 101, 103])] : List ByteArray).getD (0 + (Int.toNat ((x3.getD (Int.toNat x1) []).getD 0 0))) .empty)).size + ((ByteArray.mk #[32]) ++ (x2.getD (Int.toNat ((x3.getD (Int.toNat x1) []).getD 1 0)) .empty)).size ≤ strMax))
            (cond (decide (((x0 ++ (([(ByteArray.mk #[]), (ByteArray.mk #[112, 117, 115, 104]), (ByteArray.mk #[105, 110, 112, 117, 116]), (ByteArray.mk #[108, 111, 97, 100]), (ByteArray.mk #[115, 116, 111, 114, 101]), (ByteArray.mk #[97, 100, 100]), (ByteArray.mk #[115, 117, 98]), (ByteArray.mk #[109, 117, 108]), (ByteArray.mk #[108, 101, 115, 115]), (ByteArray.mk #[109, 105, 110]), (ByteArray.mk #[109, 97, 120]), (ByteArray.mk #[112, 105, 99, 107]), (ByteArray.mk #[110, 101, 103])] : List ByteArray).getD (0 + (Int.toNat ((x3.getD (Int.toNat x1) []).getD 0 0))) .empty)) ++ ((ByteArray.mk #[32]) ++ (x2.getD (Int.toNat ((x3.getD (Int.toNat x1) []).getD 1 0)) .empty))).size + 1 ≤ strMax))
             (ih (((x0 ++ (([(ByteArray.mk #[]), (ByteArray.mk #[112, 117, 115, 104]), (ByteArray.mk #[105, 110, 112, 117, 116]), (ByteArray.mk #[108, 111, 97, 100]), (ByteArray.mk #[115, 116, 111, 114, 101]), (ByteArray.mk #[97, 100, 100]), (ByteArray.mk #[115, 117, 98]), (ByteArray.mk #[109, 117, 108]), (ByteArray.mk #[108, 101, 115, 115]), (ByteArray.mk #[109, 105, 110]), (ByteArray.mk #[109, 97, 120]), (ByteArray.mk #[112, 105, 99, 107]), (ByteArray.mk #[110, 101, 103])] : List ByteArray).getD (0 + (Int.toNat ((x3.getD (Int.toNat x1) []).getD 0 0))) .empty)) ++ ((ByteArray.mk #[32]) ++ (x2.getD (Int.toNat ((x3.getD (Int.toNat x1) []).getD 1 0)) .empty))) ++ (ByteArray.mk #[10])) (IntKind.i64.wrap (x1 + 1)) x2 x3)
             (1, ByteArray.empty))
            (1, ByteArray.empty))
           (1, ByteArray.empty))
          (1, ByteArray.empty))
         (cond ((((x3.getD (Int.toNat x1) []).getD 0 0) : Int) == 4)
          (cond ((decide ((0 : Int) ≤ ((x3.getD (Int.toNat x1) []).getD 1 0))) && (Nat.blt (Int.toNat ((x3.getD (Int.toNat x1) []).getD 1 0)) x2.length))
           (cond (decide (1 + (x2.getD (Int.toNat ((x3.getD (Int.toNat x1) []).getD 1 0)) .empty).size ≤ strMax))
            (cond (decide ((x0 ++ (([(ByteArray.mk #[]), (ByteArray.mk #[112, 117, 115, 104]), (ByteArray.mk #[105, 110, 112, 117, 116]), (ByteArray.mk #[108, 111, 97, 100]), (ByteArray.mk #[115, 116, 111, 114, 101]), (ByteArray.mk #[97, 100, 100]), (ByteArray.mk #[115, 117, 98]), (ByteArray.mk #[109, 117, 108]), (ByteArray.mk #[108, 101, 115, 115]), (ByteArray.mk #[109, 105, 110]), (ByteArray.mk #[109, 97, 120]), (ByteArray.mk #[112, 105, 99, 107]), (ByteArray.mk #[110, 101, 103])] : List ByteArray).getD (0 + (Int.toNat ((x3.getD (Int.toNat x1) []).getD 0 0))) .empty)).size + ((ByteArray.mk #[32]) ++ (x2.getD (Int.toNat ((x3.getD (Int.toNat x1) []).getD 1 0)) .empty)).size ≤ strMax))
             (cond (decide (((x0 ++ (([(ByteArray.mk #[]), (ByteArray.mk #[112, 117, 115, 104]), (ByteArray.mk #[105, 110, 112, 117, 116]), (ByteArray.mk #[108, 111, 97, 100]), (ByteArray.mk #[115, 116, 111, 114, 101]), (ByteArray.mk #[97, 100, 100]), (ByteArray.mk #[115, 117, 98]), (ByteArray.mk #[109, 117, 108]), (ByteArray.mk #[108, 101, 115, 115]), (ByteArray.mk #[109, 105, 110]), (ByteArray.mk #[109, 97, 120]), (ByteArray.mk #[112, 105, 99, 107]), (ByteArray.mk #[110, 101, 103])] : List ByteArray).getD (0 + (Int.toNat ((x3.getD (Int.toNat x1) []).getD 0 0))) .empty)) ++ ((ByteArray.mk #[32]) ++ (x2.getD (Int.toNat ((x3.getD (Int.toNat x1) []).getD 1 0)) .empty))).size + 1 ≤ strMax))
              (ih (((x0 ++ (([(ByteArray.mk #[]), (ByteArray.mk #[112, 117, 115, 104]), (ByteArray.mk #[105, 110, 112, 117, 116]), (ByteArray.mk #[108, 111, 97, 100]), (ByteArray.mk #[115, 116, 111, 114, 101]), (ByteArray.mk #[97, 100, 100]), (ByteArray.mk #[115, 117, 98]), (ByteArray.mk #[109, 117, 108]), (ByteArray.mk #[108, 101, 115, 115]), (ByteArray.mk #[109, 105, 110]), (ByteArray.mk #[109, 97, 120]), (ByteArray.mk #[112, 105, 99, 107]), (ByteArray.mk #[110, 101, 103])] : List ByteArray).getD (0 + (Int.toNat ((x3.getD (Int.toNat x1) []).getD 0 0))) .empty)) ++ ((ByteArray.mk #[32]) ++ (x2.getD (Int.toNat ((x3.getD (Int.toNat x1) []).getD 1 0)) .empty))) ++ (ByteArray.mk #[10])) (IntKind.i64.wrap (x1 + 1)) x2 x3)
              (1, ByteArray.empty))
             (1, ByteArray.empty))
            (1, ByteArray.empty))
           (1, ByteArray.empty))
          (cond (decide ((x0 ++ (([(ByteArray.mk #[]), (ByteArray.mk #[112, 117, 115, 104]), (ByteArray.mk #[105, 110, 112, 117, 116]), (ByteArray.mk #[108, 111, 97, 100]), (ByteArray.mk #[115, 116, 111, 114, 101]), (ByteArray.mk #[97, 100, 100]), (ByteArray.mk #[115, 117, 98]), (ByteArray.mk #[109, 117, 108]), (ByteArray.mk #[108, 101, 115, 115]), (ByteArray.mk #[109, 105, 110]), (ByteArray.mk #[109, 97, 120]), (ByteArray.mk #[112, 105, 99, 107]), (ByteArray.mk #[110, 101, 103])] : List ByteArray).getD (0 + (Int.toNat ((x3.getD (Int.toNat x1) []).getD 0 0))) .empty)).size + 1 ≤ strMax))
           (ih ((x0 ++ (([(ByteArray.mk #[]), (ByteArray.mk #[112, 117, 115, 104]), (ByteArray.mk #[105, 110, 112, 117, 116]), (ByteArray.mk #[108, 111, 97, 100]), (ByteArray.mk #[115, 116, 111, 114, 101]), (ByteArray.mk #[97, 100, 100]), (ByteArray.mk #[115, 117, 98]), (ByteArray.mk #[109, 117, 108]), (ByteArray.mk #[108, 101, 115, 115]), (ByteArray.mk #[109, 105, 110]), (ByteArray.mk #[109, 97, 120]), (ByteArray.mk #[112, 105, 99, 107]), (ByteArray.mk #[110, 101, 103])] : List ByteArray).getD (0 + (Int.toNat ((x3.getD (Int.toNat x1) []).getD 0 0))) .empty)) ++ (ByteArray.mk #[10])) (IntKind.i64.wrap (x1 + 1)) x2 x3)
           (1, ByteArray.empty))))))
      (1, ByteArray.empty))
     (1, ByteArray.empty))
    (1, ByteArray.empty))
   (1, ByteArray.empty))
  (0, x0)
noncomputable def r6l0 : Nat → ByteArray → Int → List ByteArray → List (List Int) → (Nat × ByteArray)
 | 0 => fun _ _ _ _ => (1, ByteArray.empty)
 | m + 1 => b6l0 (r6l0 m)
noncomputable def a6l0 (x0 : ByteArray) (x1 : Int) (x2 : List ByteArray) (x3 : List (List Int)) (p : Nat × ByteArray) : Option (Fin' × List Value × St) := firstT ([((Nat.beq (p.1) 0), .exit 0, [.string (p.2)], ⟨[⟨true, (some (.cells [wsl 1, wsl 2]))⟩, ⟨true, (some (.strs x2))⟩, ⟨true, (some (.tab [.int .i8, .int .i16, .fl .f32] x3))⟩], 3, []⟩)].map fun (b, x) => (b, (x.1, frameOf 70 [3] x.2.1, x.2.2)))
noncomputable def u6l0 (x0 : ByteArray) (x1 : Int) (x2 : List ByteArray) (x3 : List (List Int)) (p : Nat × ByteArray) : Option (Fin' × List Value × St) := alts ([((Nat.beq (p.1) 0), .exit 0, [.string (p.2)], ⟨[⟨true, (some (.cells [wsl 1, wsl 2]))⟩, ⟨true, (some (.strs x2))⟩, ⟨true, (some (.tab [.int .i8, .int .i16, .fl .f32] x3))⟩], 3, []⟩)].map fun (b, x) => (b, (x.1, frameOf 70 [3] x.2.1, x.2.2))) some
theorem v6l0 (x0 : ByteArray) (x1 : Int) (x2 : List ByteArray) (x3 : List (List Int)) (p : Nat × ByteArray) : u6l0 x0 x1 x2 x3 p = a6l0 x0 x1 x2 x3 p := alts_first _
noncomputable def q6l0 (m : Nat) : SumK := fun vals s =>
 match vals, s.h with
 | [.pointer (some ⟨f0, f1, some f2⟩), .string x0, .int .i64 x1], [⟨true, some (.cells [.iface f3 .nilIface, .iface f4 .nilIface])⟩, ⟨true, some (.strs x2)⟩, ⟨true, some (.tab [.int .i8, .int .i16, .fl .f32] x3)⟩] => if f0 = 0 ∧ f1 = 0 ∧ f2 = 0 ∧ f3 = 1 ∧ f4 = 2 then [((Nat.beq ((r6l0 m x0 x1 x2 x3).1) 0), .exit 0, [.string ((r6l0 m x0 x1 x2 x3).2)], ⟨[⟨true, (some (.cells [wsl 1, wsl 2]))⟩, ⟨true, (some (.strs x2))⟩, ⟨true, (some (.tab [.int .i8, .int .i16, .fl .f32] x3))⟩], 3, []⟩)] else noQ vals s
 | _, _ => noQ vals s
noncomputable def w6l0 (ih : ByteArray → Int → List ByteArray → List (List Int) → (Nat × ByteArray)) (x0 : ByteArray) (x1 : Int) (x2 : List ByteArray) (x3 : List (List Int)) : Option (Fin' × List Value × St) :=
 let c142 := (r19 (Int.toNat ((x3.getD (Int.toNat x1) []).getD 2 0)))
 let c143 := (r20 (IntKind.i64.wrap ((x3.getD (Int.toNat x1) []).getD 1 0)))
 (cond (decide ((x1 : Int) < ((x3.length : Nat) : Int)))
 (cond ((decide ((0 : Int) ≤ x1)) && (Nat.blt (Int.toNat x1) x3.length))
  (cond (Nat.blt (Int.toNat x1) x3.length)
   (cond ((decide ((0 : Int) ≤ ((x3.getD (Int.toNat x1) []).getD 0 0))) && (Nat.blt (Int.toNat ((x3.getD (Int.toNat x1) []).getD 0 0)) 13))
    (cond (Nat.blt (0 + (Int.toNat ((x3.getD (Int.toNat x1) []).getD 0 0))) 13)
     (cond (decide (x0.size + (([(ByteArray.mk #[]), (ByteArray.mk #[112, 117, 115, 104]), (ByteArray.mk #[105, 110, 112, 117, 116]), (ByteArray.mk #[108, 111, 97, 100]), (ByteArray.mk #[115, 116, 111, 114, 101]), (ByteArray.mk #[97, 100, 100]), (ByteArray.mk #[115, 117, 98]), (ByteArray.mk #[109, 117, 108]), (ByteArray.mk #[108, 101, 115, 115]), (ByteArray.mk #[109, 105, 110]), (ByteArray.mk #[109, 97, 120]), (ByteArray.mk #[112, 105, 99, 107]), (ByteArray.mk #[110, 101, 103])] : List ByteArray).getD (0 + (Int.toNat ((x3.getD (Int.toNat x1) []).getD 0 0))) .empty).size ≤ strMax))
      (cond (Nat.blt (Int.toNat x1) x3.length)
       (cond ((((x3.getD (Int.toNat x1) []).getD 0 0) : Int) == 1)
        (cond (Nat.blt (Int.toNat x1) x3.length)
         (cond (Nat.beq (c142.1) 0)
          (cond (decide (1 + (c142.2).size ≤ strMax))
           (cond (decide ((x0 ++ (([(ByteArray.mk #[]), (ByteArray.mk #[112, 117, 115, 104]), (ByteArray.mk #[105, 110, 112, 117, 116]), (ByteArray.mk #[108, 111, 97, 100]), (ByteArray.mk #[115, 116, 111, 114, 101]), (ByteArray.mk #[97, 100, 100]), (ByteArray.mk #[115, 117, 98]), (ByteArray.mk #[109, 117, 108]), (ByteArray.mk #[108, 101, 115, 115]), (ByteArray.mk #[109, 105, 110]), (ByteArray.mk #[109, 97, 120]), (ByteArray.mk #[112, 105, 99, 107]), (ByteArray.mk #[110, 101, 103])] : List ByteArray).getD (0 + (Int.toNat ((x3.getD (Int.toNat x1) []).getD 0 0))) .empty)).size + ((ByteArray.mk #[32]) ++ (c142.2)).size ≤ strMax))
            (cond (decide (((x0 ++ (([(ByteArray.mk #[]), (ByteArray.mk #[112, 117, 115, 104]), (ByteArray.mk #[105, 110, 112, 117, 116]), (ByteArray.mk #[108, 111, 97, 100]), (ByteArray.mk #[115, 116, 111, 114, 101]), (ByteArray.mk #[97, 100, 100]), (ByteArray.mk #[115, 117, 98]), (ByteArray.mk #[109, 117, 108]), (ByteArray.mk #[108, 101, 115, 115]), (ByteArray.mk #[109, 105, 110]), (ByteArray.mk #[109, 97, 120]), (ByteArray.mk #[112, 105, 99, 107]), (ByteArray.mk #[110, 101, 103])] : List ByteArray).getD (0 + (Int.toNat ((x3.getD (Int.toNat x1) []).getD 0 0))) .empty)) ++ ((ByteArray.mk #[32]) ++ (c142.2))).size + 1 ≤ strMax))
             (u6l0 x0 x1 x2 x3 (ih (((x0 ++ (([(ByteArray.mk #[]), (ByteArray.mk #[112, 117, 115, 104]), (ByteArray.mk #[105, 110, 112, 117, 116]), (ByteArray.mk #[108, 111, 97, 100]), (ByteArray.mk #[115, 116, 111, 114, 101]), (ByteArray.mk #[97, 100, 100]), (ByteArray.mk #[115, 117, 98]), (ByteArray.mk #[109, 117, 108]), (ByteArray.mk #[108, 101, 115, 115]), (ByteArray.mk #[109, 105, 110]), (ByteArray.mk #[109, 97, 120]), (ByteArray.mk #[112, 105, 99, 107]), (ByteArray.mk #[110, 101, 103])] : List ByteArray).getD (0 + (Int.toNat ((x3.getD (Int.toNat x1) []).getD 0 0))) .empty)) ++ ((ByteArray.mk #[32]) ++ (c142.2))) ++ (ByteArray.mk #[10])) (IntKind.i64.wrap (x1 + 1)) x2 x3))
             none)
            none)
           none)
          none)
         none)
        (cond ((((x3.getD (Int.toNat x1) []).getD 0 0) : Int) == 2)
         (cond (Nat.blt (Int.toNat x1) x3.length)
          (cond (Nat.beq (c143.1) 0)
           (cond (decide (1 + (c143.2).size ≤ strMax))
            (cond (decide ((x0 ++ (([(ByteArray.mk #[]), (ByteArray.mk #[112, 117, 115, 104]), (ByteArray.mk #[105, 110, 112, 117, 116]), (ByteArray.mk #[108, 111, 97, 100]), (ByteArray.mk #[115, 116, 111, 114, 101]), (ByteArray.mk #[97, 100, 100]), (ByteArray.mk #[115, 117, 98]), (ByteArray.mk #[109, 117, 108]), (ByteArray.mk #[108, 101, 115, 115]), (ByteArray.mk #[109, 105, 110]), (ByteArray.mk #[109, 97, 120]), (ByteArray.mk #[112, 105, 99, 107]), (ByteArray.mk #[110, 101, 103])] : List ByteArray).getD (0 + (Int.toNat ((x3.getD (Int.toNat x1) []).getD 0 0))) .empty)).size + ((ByteArray.mk #[32]) ++ (c143.2)).size ≤ strMax))
             (cond (decide (((x0 ++ (([(ByteArray.mk #[]), (ByteArray.mk #[112, 117, 115, 104]), (ByteArray.mk #[105, 110, 112, 117, 116]), (ByteArray.mk #[108, 111, 97, 100]), (ByteArray.mk #[115, 116, 111, 114, 101]), (ByteArray.mk #[97, 100, 100]), (ByteArray.mk #[115, 117, 98]), (ByteArray.mk #[109, 117, 108]), (ByteArray.mk #[108, 101, 115, 115]), (ByteArray.mk #[109, 105, 110]), (ByteArray.mk #[109, 97, 120]), (ByteArray.mk #[112, 105, 99, 107]), (ByteArray.mk #[110, 101, 103])] : List ByteArray).getD (0 + (Int.toNat ((x3.getD (Int.toNat x1) []).getD 0 0))) .empty)) ++ ((ByteArray.mk #[32]) ++ (c143.2))).size + 1 ≤ strMax))
              (u6l0 x0 x1 x2 x3 (ih (((x0 ++ (([(ByteArray.mk #[]), (ByteArray.mk #[112, 117, 115, 104]), (ByteArray.mk #[105, 110, 112, 117, 116]), (ByteArray.mk #[108, 111, 97, 100]), (ByteArray.mk #[115, 116, 111, 114, 101]), (ByteArray.mk #[97, 100, 100]), (ByteArray.mk #[115, 117, 98]), (ByteArray.mk #[109, 117, 108]), (ByteArray.mk #[108, 101, 115, 115]), (ByteArray.mk #[109, 105, 110]), (ByteArray.mk #[109, 97, 120]), (ByteArray.mk #[112, 105, 99, 107]), (ByteArray.mk #[110, 101, 103])] : List ByteArray).getD (0 + (Int.toNat ((x3.getD (Int.toNat x1) []).getD 0 0))) .empty)) ++ ((ByteArray.mk #[32]) ++ (c143.2))) ++ (ByteArray.mk #[10])) (IntKind.i64.wrap (x1 + 1)) x2 x3))
              none)
             none)
            none)
           none)
          none)
         (cond ((((x3.getD (Int.toNat x1) []).getD 0 0) : Int) == 3)
          (cond ((((x3.getD (Int.toNat x1) []).getD 0 0) : Int) == 3)
           (cond (Nat.blt (Int.toNat x1) x3.length)
            (cond ((decide ((0 : Int) ≤ ((x3.getD (Int.toNat x1) []).getD 1 0))) && (Nat.blt (Int.toNat ((x3.getD (Int.toNat x1) []).getD 1 0)) x2.length))
             (cond (Nat.blt (Int.toNat ((x3.getD (Int.toNat x1) []).getD 1 0)) x2.length)
              (cond (decide (1 + (x2.getD (Int.toNat ((x3.getD (Int.toNat x1) []).getD 1 0)) .empty).size ≤ strMax))
               (cond (decide ((x0 ++ (([(ByteArray.mk #[]), (ByteArray.mk #[112, 117, 115, 104]), (ByteArray.mk #[105, 110, 112, 117, 116]), (ByteArray.mk #[108, 111, 97, 100]), (ByteArray.mk #[115, 116, 111, 114, 101]), (ByteArray.mk #[97, 100, 100]), (ByteArray.mk #[115, 117, 98]), (ByteArray.mk #[109, 117, 108]), (ByteArray.mk #[108, 101, 115, 115]), (ByteArray.mk #[109, 105, 110]), (ByteArray.mk #[109, 97, 120]), (ByteArray.mk #[112, 105, 99, 107]), (ByteArray.mk #[110, 101, 103])] : List ByteArray).getD (0 + (Int.toNat ((x3.getD (Int.toNat x1) []).getD 0 0))) .empty)).size + ((ByteArray.mk #[32]) ++ (x2.getD (Int.toNat ((x3.getD (Int.toNat x1) []).getD 1 0)) .empty)).size ≤ strMax))
                (cond (decide (((x0 ++ (([(ByteArray.mk #[]), (ByteArray.mk #[112, 117, 115, 104]), (ByteArray.mk #[105, 110, 112, 117, 116]), (ByteArray.mk #[108, 111, 97, 100]), (ByteArray.mk #[115, 116, 111, 114, 101]), (ByteArray.mk #[97, 100, 100]), (ByteArray.mk #[115, 117, 98]), (ByteArray.mk #[109, 117, 108]), (ByteArray.mk #[108, 101, 115, 115]), (ByteArray.mk #[109, 105, 110]), (ByteArray.mk #[109, 97, 120]), (ByteArray.mk #[112, 105, 99, 107]), (ByteArray.mk #[110, 101, 103])] : List ByteArray).getD (0 + (Int.toNat ((x3.getD (Int.toNat x1) []).getD 0 0))) .empty)) ++ ((ByteArray.mk #[32]) ++ (x2.getD (Int.toNat ((x3.getD (Int.toNat x1) []).getD 1 0)) .empty))).size + 1 ≤ strMax))
                 (u6l0 x0 x1 x2 x3 (ih (((x0 ++ (([(ByteArray.mk #[]), (ByteArray.mk #[112, 117, 115, 104]), (ByteArray.mk #[105, 110, 112, 117, 116]), (ByteArray.mk #[108, 111, 97, 100]), (ByteArray.mk #[115, 116, 111, 114, 101]), (ByteArray.mk #[97, 100, 100]), (ByteArray.mk #[115, 117, 98]), (ByteArray.mk #[109, 117, 108]), (ByteArray.mk #[108, 101, 115, 115]), (ByteArray.mk #[109, 105, 110]), (ByteArray.mk #[109, 97, 120]), (ByteArray.mk #[112, 105, 99, 107]), (ByteArray.mk #[110, 101, 103])] : List ByteArray).getD (0 + (Int.toNat ((x3.getD (Int.toNat x1) []).getD 0 0))) .empty)) ++ ((ByteArray.mk #[32]) ++ (x2.getD (Int.toNat ((x3.getD (Int.toNat x1) []).getD 1 0)) .empty))) ++ (ByteArray.mk #[10])) (IntKind.i64.wrap (x1 + 1)) x2 x3))
                 none)
                none)
               none)
              none)
             none)
            none)
           (cond (decide ((x0 ++ (([(ByteArray.mk #[]), (ByteArray.mk #[112, 117, 115, 104]), (ByteArray.mk #[105, 110, 112, 117, 116]), (ByteArray.mk #[108, 111, 97, 100]), (ByteArray.mk #[115, 116, 111, 114, 101]), (ByteArray.mk #[97, 100, 100]), (ByteArray.mk #[115, 117, 98]), (ByteArray.mk #[109, 117, 108]), (ByteArray.mk #[108, 101, 115, 115]), (ByteArray.mk #[109, 105, 110]), (ByteArray.mk #[109, 97, 120]), (ByteArray.mk #[112, 105, 99, 107]), (ByteArray.mk #[110, 101, 103])] : List ByteArray).getD (0 + (Int.toNat ((x3.getD (Int.toNat x1) []).getD 0 0))) .empty)).size + 1 ≤ strMax))
            (cond (Nat.beq ((ih ((x0 ++ (([(ByteArray.mk #[]), (ByteArray.mk #[112, 117, 115, 104]), (ByteArray.mk #[105, 110, 112, 117, 116]), (ByteArray.mk #[108, 111, 97, 100]), (ByteArray.mk #[115, 116, 111, 114, 101]), (ByteArray.mk #[97, 100, 100]), (ByteArray.mk #[115, 117, 98]), (ByteArray.mk #[109, 117, 108]), (ByteArray.mk #[108, 101, 115, 115]), (ByteArray.mk #[109, 105, 110]), (ByteArray.mk #[109, 97, 120]), (ByteArray.mk #[112, 105, 99, 107]), (ByteArray.mk #[110, 101, 103])] : List ByteArray).getD (0 + (Int.toNat ((x3.getD (Int.toNat x1) []).getD 0 0))) .empty)) ++ (ByteArray.mk #[10])) (IntKind.i64.wrap (x1 + 1)) x2 x3).1) 0)
             (some (.exit 0, frameOf 70 [3] [.string ((ih ((x0 ++ (([(ByteArray.mk #[]), (ByteArray.mk #[112, 117, 115, 104]), (ByteArray.mk #[105, 110, 112, 117, 116]), (ByteArray.mk #[108, 111, 97, 100]), (ByteArray.mk #[115, 116, 111, 114, 101]), (ByteArray.mk #[97, 100, 100]), (ByteArray.mk #[115, 117, 98]), (ByteArray.mk #[109, 117, 108]), (ByteArray.mk #[108, 101, 115, 115]), (ByteArray.mk #[109, 105, 110]), (ByteArray.mk #[109, 97, 120]), (ByteArray.mk #[112, 105, 99, 107]), (ByteArray.mk #[110, 101, 103])] : List ByteArray).getD (0 + (Int.toNat ((x3.getD (Int.toNat x1) []).getD 0 0))) .empty)) ++ (ByteArray.mk #[10])) (IntKind.i64.wrap (x1 + 1)) x2 x3).2)], ⟨[⟨true, (some (.cells [wsl 1, wsl 2]))⟩, ⟨true, (some (.strs x2))⟩, ⟨true, (some (.tab [.int .i8, .int .i16, .fl .f32] x3))⟩], 3, []⟩))
             none)
            none))
          (cond ((((x3.getD (Int.toNat x1) []).getD 0 0) : Int) == 4)
           (cond (Nat.blt (Int.toNat x1) x3.length)
            (cond ((decide ((0 : Int) ≤ ((x3.getD (Int.toNat x1) []).getD 1 0))) && (Nat.blt (Int.toNat ((x3.getD (Int.toNat x1) []).getD 1 0)) x2.length))
             (cond (Nat.blt (Int.toNat ((x3.getD (Int.toNat x1) []).getD 1 0)) x2.length)
              (cond (decide (1 + (x2.getD (Int.toNat ((x3.getD (Int.toNat x1) []).getD 1 0)) .empty).size ≤ strMax))
               (cond (decide ((x0 ++ (([(ByteArray.mk #[]), (ByteArray.mk #[112, 117, 115, 104]), (ByteArray.mk #[105, 110, 112, 117, 116]), (ByteArray.mk #[108, 111, 97, 100]), (ByteArray.mk #[115, 116, 111, 114, 101]), (ByteArray.mk #[97, 100, 100]), (ByteArray.mk #[115, 117, 98]), (ByteArray.mk #[109, 117, 108]), (ByteArray.mk #[108, 101, 115, 115]), (ByteArray.mk #[109, 105, 110]), (ByteArray.mk #[109, 97, 120]), (ByteArray.mk #[112, 105, 99, 107]), (ByteArray.mk #[110, 101, 103])] : List ByteArray).getD (0 + (Int.toNat ((x3.getD (Int.toNat x1) []).getD 0 0))) .empty)).size + ((ByteArray.mk #[32]) ++ (x2.getD (Int.toNat ((x3.getD (Int.toNat x1) []).getD 1 0)) .empty)).size ≤ strMax))
                (cond (decide (((x0 ++ (([(ByteArray.mk #[]), (ByteArray.mk #[112, 117, 115, 104]), (ByteArray.mk #[105, 110, 112, 117, 116]), (ByteArray.mk #[108, 111, 97, 100]), (ByteArray.mk #[115, 116, 111, 114, 101]), (ByteArray.mk #[97, 100, 100]), (ByteArray.mk #[115, 117, 98]), (ByteArray.mk #[109, 117, 108]), (ByteArray.mk #[108, 101, 115, 115]), (ByteArray.mk #[109, 105, 110]), (ByteArray.mk #[109, 97, 120]), (ByteArray.mk #[112, 105, 99, 107]), (ByteArray.mk #[110, 101, 103])] : List ByteArray).getD (0 + (Int.toNat ((x3.getD (Int.toNat x1) []).getD 0 0))) .empty)) ++ ((ByteArray.mk #[32]) ++ (x2.getD (Int.toNat ((x3.getD (Int.toNat x1) []).getD 1 0)) .empty))).size + 1 ≤ strMax))
                 (u6l0 x0 x1 x2 x3 (ih (((x0 ++ (([(ByteArray.mk #[]), (ByteArray.mk #[112, 117, 115, 104]), (ByteArray.mk #[105, 110, 112, 117, 116]), (ByteArray.mk #[108, 111, 97, 100]), (ByteArray.mk #[115, 116, 111, 114, 101]), (ByteArray.mk #[97, 100, 100]), (ByteArray.mk #[115, 117, 98]), (ByteArray.mk #[109, 117, 108]), (ByteArray.mk #[108, 101, 115, 115]), (ByteArray.mk #[109, 105, 110]), (ByteArray.mk #[109, 97, 120]), (ByteArray.mk #[112, 105, 99, 107]), (ByteArray.mk #[110, 101, 103])] : List ByteArray).getD (0 + (Int.toNat ((x3.getD (Int.toNat x1) []).getD 0 0))) .empty)) ++ ((ByteArray.mk #[32]) ++ (x2.getD (Int.toNat ((x3.getD (Int.toNat x1) []).getD 1 0)) .empty))) ++ (ByteArray.mk #[10])) (IntKind.i64.wrap (x1 + 1)) x2 x3))
                 none)
                none)
               none)
              none)
             none)
            none)
           (cond (decide ((x0 ++ (([(ByteArray.mk #[]), (ByteArray.mk #[112, 117, 115, 104]), (ByteArray.mk #[105, 110, 112, 117, 116]), (ByteArray.mk #[108, 111, 97, 100]), (ByteArray.mk #[115, 116, 111, 114, 101]), (ByteArray.mk #[97, 100, 100]), (ByteArray.mk #[115, 117, 98]), (ByteArray.mk #[109, 117, 108]), (ByteArray.mk #[108, 101, 115, 115]), (ByteArray.mk #[109, 105, 110]), (ByteArray.mk #[109, 97, 120]), (ByteArray.mk #[112, 105, 99, 107]), (ByteArray.mk #[110, 101, 103])] : List ByteArray).getD (0 + (Int.toNat ((x3.getD (Int.toNat x1) []).getD 0 0))) .empty)).size + 1 ≤ strMax))
            (u6l0 x0 x1 x2 x3 (ih ((x0 ++ (([(ByteArray.mk #[]), (ByteArray.mk #[112, 117, 115, 104]), (ByteArray.mk #[105, 110, 112, 117, 116]), (ByteArray.mk #[108, 111, 97, 100]), (ByteArray.mk #[115, 116, 111, 114, 101]), (ByteArray.mk #[97, 100, 100]), (ByteArray.mk #[115, 117, 98]), (ByteArray.mk #[109, 117, 108]), (ByteArray.mk #[108, 101, 115, 115]), (ByteArray.mk #[109, 105, 110]), (ByteArray.mk #[109, 97, 120]), (ByteArray.mk #[112, 105, 99, 107]), (ByteArray.mk #[110, 101, 103])] : List ByteArray).getD (0 + (Int.toNat ((x3.getD (Int.toNat x1) []).getD 0 0))) .empty)) ++ (ByteArray.mk #[10])) (IntKind.i64.wrap (x1 + 1)) x2 x3))
            none)))))
       none)
      none)
     none)
    none)
   none)
  none)
 (a6l0 x0 x1 x2 x3 (0, x0)))
set_option maxRecDepth 100000 in
set_option maxHeartbeats 4000000 in
theorem e6l0 (m : Nat) (x0 : ByteArray) (x1 : Int) (x2 : List ByteArray) (x3 : List (List Int)) : evC Tryd.prog ext T20 noL 200 (loopN Tryd.f6 0) (loopTail ([1, 3, 4], []) [3] [] (sumK 70 [1, 3, 4] [3] (q6l0 m))) (frameOf 70 [1, 3, 4] [vp 0, .string x0, vi x1]) ⟨[⟨true, (some (.cells [wsl 1, wsl 2]))⟩, ⟨true, (some (.strs x2))⟩, ⟨true, (some (.tab [.int .i8, .int .i16, .fl .f32] x3))⟩], 3, []⟩ = firstT ([((Nat.beq ((r6l0 (m + 1) x0 x1 x2 x3).1) 0), .exit 0, [.string ((r6l0 (m + 1) x0 x1 x2 x3).2)], ⟨[⟨true, (some (.cells [wsl 1, wsl 2]))⟩, ⟨true, (some (.strs x2))⟩, ⟨true, (some (.tab [.int .i8, .int .i16, .fl .f32] x3))⟩], 3, []⟩)].map fun (b, x) => (b, (x.1, frameOf 70 [3] x.2.1, x.2.2))) :=
 (show evC Tryd.prog ext T20 noL 200 (loopN Tryd.f6 0) (loopTail ([1, 3, 4], []) [3] [] (sumK 70 [1, 3, 4] [3] (q6l0 m))) (frameOf 70 [1, 3, 4] [vp 0, .string x0, vi x1]) ⟨[⟨true, (some (.cells [wsl 1, wsl 2]))⟩, ⟨true, (some (.strs x2))⟩, ⟨true, (some (.tab [.int .i8, .int .i16, .fl .f32] x3))⟩], 3, []⟩ = w6l0 (r6l0 m) x0 x1 x2 x3 from by kernel_rfl).trans
 (show w6l0 (r6l0 m) x0 x1 x2 x3 = a6l0 x0 x1 x2 x3 (r6l0 (m + 1) x0 x1 x2 x3) from by unfold w6l0; show _ = a6l0 x0 x1 x2 x3 (b6l0 (r6l0 m) x0 x1 x2 x3); unfold b6l0; exact (cond_both (a6l0 x0 x1 x2 x3) _ (fun h0 => (cond_both (a6l0 x0 x1 x2 x3) _ (fun h1 => (cond_t (ev_and2 h1) (cond_both (a6l0 x0 x1 x2 x3) _ (fun h2 => (cond_both (a6l0 x0 x1 x2 x3) _ (fun h3 => (cond_both (a6l0 x0 x1 x2 x3) _ (fun h4 => (cond_t (ev_and2 h1) (cond_both (a6l0 x0 x1 x2 x3) _ (fun h5 => (cond_t (ev_and2 h1) (cond_app (a6l0 x0 x1 x2 x3) _ (cond_app (a6l0 x0 x1 x2 x3) _ (cond_app (a6l0 x0 x1 x2 x3) _ (cond_app (a6l0 x0 x1 x2 x3) _ (v6l0 x0 x1 x2 x3 ((r6l0 m) (((x0 ++ (([(ByteArray.mk #[]), (ByteArray.mk #[112, 117, 115, 104]), (ByteArray.mk #[105, 110, 112, 117, 116]), (ByteArray.mk #[108, 111, 97, 100]), (ByteArray.mk #[115, 116, 111, 114, 101]), (ByteArray.mk #[97, 100, 100]), (ByteArray.mk #[115, 117, 98]), (ByteArray.mk #[109, 117, 108]), (ByteArray.mk #[108, 101, 115, 115]), (ByteArray.mk #[109, 105, 110]), (ByteArray.mk #[109, 97, 120]), (ByteArray.mk #[112, 105, 99, 107]), (ByteArray.mk #[110, 101, 103])] : List ByteArray).getD (0 + (Int.toNat ((x3.getD (Int.toNat x1) []).getD 0 0))) .empty)) ++ ((ByteArray.mk #[32]) ++ ((r19 (Int.toNat ((x3.getD (Int.toNat x1) []).getD 2 0))).2))) ++ (ByteArray.mk #[10])) (IntKind.i64.wrap (x1 + 1)) x2 x3)) rfl) rfl) rfl) rfl))) (fun h5 => (cond_both (a6l0 x0 x1 x2 x3) _ (fun h6 => (cond_t (ev_and2 h1) (cond_app (a6l0 x0 x1 x2 x3) _ (cond_app (a6l0 x0 x1 x2 x3) _ (cond_app (a6l0 x0 x1 x2 x3) _ (cond_app (a6l0 x0 x1 x2 x3) _ (v6l0 x0 x1 x2 x3 ((r6l0 m) (((x0 ++ (([(ByteArray.mk #[]), (ByteArray.mk #[112, 117, 115, 104]), (ByteArray.mk #[105, 110, 112, 117, 116]), (ByteArray.mk #[108, 111, 97, 100]), (ByteArray.mk #[115, 116, 111, 114, 101]), (ByteArray.mk #[97, 100, 100]), (ByteArray.mk #[115, 117, 98]), (ByteArray.mk #[109, 117, 108]), (ByteArray.mk #[108, 101, 115, 115]), (ByteArray.mk #[109, 105, 110]), (ByteArray.mk #[109, 97, 120]), (ByteArray.mk #[112, 105, 99, 107]), (ByteArray.mk #[110, 101, 103])] : List ByteArray).getD (0 + (Int.toNat ((x3.getD (Int.toNat x1) []).getD 0 0))) .empty)) ++ ((ByteArray.mk #[32]) ++ ((r20 (IntKind.i64.wrap ((x3.getD (Int.toNat x1) []).getD 1 0))).2))) ++ (ByteArray.mk #[10])) (IntKind.i64.wrap (x1 + 1)) x2 x3)) rfl) rfl) rfl) rfl))) (fun h6 => (cond_both (a6l0 x0 x1 x2 x3) _ (fun h7 => (cond_t h7 (cond_t (ev_and2 h1) (cond_both (a6l0 x0 x1 x2 x3) _ (fun h8 => (cond_t (ev_and2 h8) (cond_app (a6l0 x0 x1 x2 x3) _ (cond_app (a6l0 x0 x1 x2 x3) _ (cond_app (a6l0 x0 x1 x2 x3) _ (v6l0 x0 x1 x2 x3 ((r6l0 m) (((x0 ++ (([(ByteArray.mk #[]), (ByteArray.mk #[112, 117, 115, 104]), (ByteArray.mk #[105, 110, 112, 117, 116]), (ByteArray.mk #[108, 111, 97, 100]), (ByteArray.mk #[115, 116, 111, 114, 101]), (ByteArray.mk #[97, 100, 100]), (ByteArray.mk #[115, 117, 98]), (ByteArray.mk #[109, 117, 108]), (ByteArray.mk #[108, 101, 115, 115]), (ByteArray.mk #[109, 105, 110]), (ByteArray.mk #[109, 97, 120]), (ByteArray.mk #[112, 105, 99, 107]), (ByteArray.mk #[110, 101, 103])] : List ByteArray).getD (0 + (Int.toNat ((x3.getD (Int.toNat x1) []).getD 0 0))) .empty)) ++ ((ByteArray.mk #[32]) ++ (x2.getD (Int.toNat ((x3.getD (Int.toNat x1) []).getD 1 0)) .empty))) ++ (ByteArray.mk #[10])) (IntKind.i64.wrap (x1 + 1)) x2 x3)) rfl) rfl) rfl))) (fun h8 => rfl))))) (fun h7 => (cond_both (a6l0 x0 x1 x2 x3) _ (fun h8 => (cond_t (ev_and2 h1) (cond_both (a6l0 x0 x1 x2 x3) _ (fun h9 => (cond_t (ev_and2 h9) (cond_app (a6l0 x0 x1 x2 x3) _ (cond_app (a6l0 x0 x1 x2 x3) _ (cond_app (a6l0 x0 x1 x2 x3) _ (v6l0 x0 x1 x2 x3 ((r6l0 m) (((x0 ++ (([(ByteArray.mk #[]), (ByteArray.mk #[112, 117, 115, 104]), (ByteArray.mk #[105, 110, 112, 117, 116]), (ByteArray.mk #[108, 111, 97, 100]), (ByteArray.mk #[115, 116, 111, 114, 101]), (ByteArray.mk #[97, 100, 100]), (ByteArray.mk #[115, 117, 98]), (ByteArray.mk #[109, 117, 108]), (ByteArray.mk #[108, 101, 115, 115]), (ByteArray.mk #[109, 105, 110]), (ByteArray.mk #[109, 97, 120]), (ByteArray.mk #[112, 105, 99, 107]), (ByteArray.mk #[110, 101, 103])] : List ByteArray).getD (0 + (Int.toNat ((x3.getD (Int.toNat x1) []).getD 0 0))) .empty)) ++ ((ByteArray.mk #[32]) ++ (x2.getD (Int.toNat ((x3.getD (Int.toNat x1) []).getD 1 0)) .empty))) ++ (ByteArray.mk #[10])) (IntKind.i64.wrap (x1 + 1)) x2 x3)) rfl) rfl) rfl))) (fun h9 => rfl)))) (fun h8 => (cond_app (a6l0 x0 x1 x2 x3) _ (v6l0 x0 x1 x2 x3 ((r6l0 m) ((x0 ++ (([(ByteArray.mk #[]), (ByteArray.mk #[112, 117, 115, 104]), (ByteArray.mk #[105, 110, 112, 117, 116]), (ByteArray.mk #[108, 111, 97, 100]), (ByteArray.mk #[115, 116, 111, 114, 101]), (ByteArray.mk #[97, 100, 100]), (ByteArray.mk #[115, 117, 98]), (ByteArray.mk #[109, 117, 108]), (ByteArray.mk #[108, 101, 115, 115]), (ByteArray.mk #[109, 105, 110]), (ByteArray.mk #[109, 97, 120]), (ByteArray.mk #[112, 105, 99, 107]), (ByteArray.mk #[110, 101, 103])] : List ByteArray).getD (0 + (Int.toNat ((x3.getD (Int.toNat x1) []).getD 0 0))) .empty)) ++ (ByteArray.mk #[10])) (IntKind.i64.wrap (x1 + 1)) x2 x3)) rfl))))))))))) (fun h4 => rfl))) (fun h3 => rfl))) (fun h2 => rfl)))) (fun h1 => rfl))) (fun h0 => rfl)))
set_option maxRecDepth 100000 in
set_option maxHeartbeats 4000000 in
theorem qm6l0 : ∀ m, SumKOk Tryd.prog (loopN Tryd.f6 0) 70 [1, 3, 4] [3] (q6l0 m) := by
  intro m
  induction m with
  | zero =>
    intro vals s x h1 h2 h3
    unfold q6l0 at h3; split at h3
    · rename_i h; split at h3
      · rename_i hc; obtain ⟨rfl, rfl, rfl, rfl, rfl⟩ := hc; exact absurd h3 (by simp [r6l0, firstT, Nat.beq])
      · exact noQ_ok _ _ _ h1 h2 h3
    · exact noQ_ok _ _ _ h1 h2 h3
  | succ m ih =>
    intro vals s x h1 h2 h3
    unfold q6l0 at h3; split at h3
    · rename_i h; split at h3
      · rename_i hc; obtain ⟨rfl, rfl, rfl, rfl, rfl⟩ := hc; exact sum_step ok20 extOk mixed ((lfOkF_no _ _).inner (by kernel_rfl)) ih h1 h2 h (e6l0 m _ _ _ _) rfl h3
      · exact noQ_ok _ _ _ h1 h2 h3
    · exact noQ_ok _ _ _ h1 h2 h3
noncomputable def Q6l0 : SumK := fun vals s => q6l0 (fuelOf vals s.h) vals s
theorem qok6l0 : SumKOk Tryd.prog (loopN Tryd.f6 0) 70 [1, 3, 4] [3] Q6l0 := fuel_ok qm6l0 fuelOf
noncomputable def L6_1 : LoopT := addL noL 6 ([1, 3, 4], []) (sumK 70 [1, 3, 4] [3] Q6l0)
theorem lok6_1 : LfOkF Tryd.prog L6_1 Tryd.f6 := lfOkF_add (lfOkF_no _ _) qok6l0 (by kernel_rfl) (by kernel_rfl) (by kernel_rfl)

/-- spec.ProgramText -/
noncomputable def w6 {α : Type} (x0 : List ByteArray) (x1 : List (List Int)) (k : (Nat × ByteArray) → α) : α :=
 let c144 := (r6l0 (1000 + x1.length + x0.length + 0) (ByteArray.mk #[]) 0 x0 x1)
 cond (Nat.beq ((r17 x0 x1).1) 0)
  (cond (!((r17 x0 x1).2))
   (k (0, (ByteArray.mk #[])))
   (cond (Nat.beq (c144.1) 0)
    (k (0, (c144.2)))
    (k (1, ByteArray.empty))))
  (k (1, ByteArray.empty))
noncomputable def r6 (x0 : List ByteArray) (x1 : List (List Int)) : Nat × ByteArray := w6 x0 x1 (fun p => p)
noncomputable def g6 (x0 : List ByteArray) (x1 : List (List Int)) (p : Nat × ByteArray) : List (Bool × Value × St) := [((Nat.beq (p.1) 0), .string (p.2), ⟨[⟨true, (some (.strs x0))⟩, ⟨true, (some (.tab [.int .i8, .int .i16, .fl .f32] x1))⟩], 2, []⟩)]
theorem p6 {α : Type} (x0 : List ByteArray) (x1 : List (List Int)) (f : (Nat × ByteArray) → α) : w6 x0 x1 f = f (w6 x0 x1 (fun p => p)) := by unfold w6; exact (cond_app f _ (cond_app f _ rfl (cond_app f _ rfl rfl)) rfl)
set_option maxRecDepth 100000 in
set_option maxHeartbeats 4000000 in
theorem e6 (x0 : List ByteArray) (x1 : List (List Int)) : evFn Tryd.prog ext T20 L6_1 200 Tryd.f6 [.agg #[wsl 0, wsl 1]] ⟨[⟨true, (some (.strs x0))⟩, ⟨true, (some (.tab [.int .i8, .int .i16, .fl .f32] x1))⟩], 2, []⟩ = firstT (g6 x0 x1 (r6 x0 x1)) :=
 Eq.trans (by kernel_rfl) (p6 x0 x1 (fun p => firstT (g6 x0 x1 p)))
noncomputable def s6 (args : List Value) (s : St) : List (Bool × Value × St) :=
 match args, s.h with
 | [.agg ⟨[.iface f0 .nilIface, .iface f1 .nilIface]⟩], [⟨true, some (.strs x0)⟩, ⟨true, some (.tab [.int .i8, .int .i16, .fl .f32] x1)⟩] => if f0 = 0 ∧ f1 = 1 then (g6 x0 x1 (r6 x0 x1)) else T20 6 args s
 | _, _ => T20 6 args s
noncomputable def T21 : CallF := addF T20 6 s6
set_option maxRecDepth 100000 in
set_option maxHeartbeats 4000000 in
theorem ok21 : CfOk Tryd.prog T21 := by
  refine cfOk_add ok20 fun args s r s' h1 h2 h3 => ?_
  unfold s6 at h3; split at h3
  · rename_i h; split at h3
    · rename_i hc; obtain ⟨rfl, rfl⟩ := hc; exact callOk ok20 Tryd.func6 h1 h2 h lok6_1.body (e6 _ _) rfl h3
    · exact ok20 _ _ _ _ _ h1 h2 h3
  · exact ok20 _ _ _ _ _ h1 h2 h3

/-- impl.isWord -/
noncomputable def w79 {α : Type} (x0 : ByteArray) (k : Bool → α) : α :=
 cond (x0.toList == (ByteArray.mk #[109, 105, 110]).toList)
  (k (true))
  (cond (x0.toList == (ByteArray.mk #[109, 97, 120]).toList)
   (k (true))
   (k ((x0.toList == (ByteArray.mk #[112, 105, 99, 107]).toList))))
noncomputable def r79 (x0 : ByteArray) : Bool := w79 x0 (fun p => p)
noncomputable def g79 (x0 : ByteArray) (p : Bool) : List (Bool × Value × St) := [(true, .bool p, st0)]
theorem p79 {α : Type} (x0 : ByteArray) (f : Bool → α) : w79 x0 f = f (w79 x0 (fun p => p)) := by unfold w79; exact (cond_app f _ rfl (cond_app f _ rfl rfl))
set_option maxRecDepth 100000 in
set_option maxHeartbeats 4000000 in
theorem e79 (x0 : ByteArray) : evFn Tryd.prog ext T21 noL 200 Tryd.f79 [.string x0] st0 = firstT (g79 x0 (r79 x0)) :=
 Eq.trans (by kernel_rfl) (p79 x0 (fun p => firstT (g79 x0 p)))
noncomputable def s79 (args : List Value) (s : St) : List (Bool × Value × St) :=
 match args, s.h with
 | [.string x0], [] => (g79 x0 (r79 x0))
 | _, _ => T21 79 args s
noncomputable def T22 : CallF := addF T21 79 s79
set_option maxRecDepth 100000 in
set_option maxHeartbeats 4000000 in
theorem ok22 : CfOk Tryd.prog T22 := by
  refine cfOk_add ok21 fun args s r s' h1 h2 h3 => ?_
  unfold s79 at h3; split at h3
  · rename_i h; exact callOk ok21 Tryd.func79 h1 h2 h (lfOkF_no _ _).body (e79 _) rfl h3
  · exact ok21 _ _ _ _ _ h1 h2 h3

/-- impl.isName, loop 0: one round -/
noncomputable def b49l0 (ih : ByteArray → Int → Int → Nat) (x0 : ByteArray) (x1 x2 : Int) : Nat :=
 cond (decide ((x2 : Int) < x1))
  (cond ((decide ((0 : Int) ≤ x2)) && (Nat.blt (Int.toNat x2) (x0.size)))
   (cond (decide ((((UInt8.toNat (List.getD (ByteArray.data x0).toList (Int.toNat x2) 0) : Nat) : Int) : Int) < 97))
    (0)
    (cond (decide ((((UInt8.toNat (List.getD (ByteArray.data x0).toList (Int.toNat x2) 0) : Nat) : Int) : Int) > 122))
     (0)
     (ih x0 x1 (IntKind.i64.wrap (x2 + 1)))))
   (2))
  (1)
noncomputable def r49l0 : Nat → ByteArray → Int → Int → Nat
 | 0 => fun _ _ _ => (2)
 | m + 1 => b49l0 (r49l0 m)
noncomputable def a49l0 (x0 : ByteArray) (x1 x2 : Int) (p : Nat) : Option (Fin' × List Value × St) := firstT ([((Nat.beq p 0), .ret, [.bool false], st0), ((Nat.beq p 1), .exit 0, [anyV], st0)].map fun (b, x) => (b, (x.1, frameOf 32 [2] x.2.1, x.2.2)))
noncomputable def u49l0 (x0 : ByteArray) (x1 x2 : Int) (p : Nat) : Option (Fin' × List Value × St) := alts ([((Nat.beq p 0), .ret, [.bool false], st0), ((Nat.beq p 1), .exit 0, [anyV], st0)].map fun (b, x) => (b, (x.1, frameOf 32 [2] x.2.1, x.2.2))) some
theorem v49l0 (x0 : ByteArray) (x1 x2 : Int) (p : Nat) : u49l0 x0 x1 x2 p = a49l0 x0 x1 x2 p := alts_first _
noncomputable def q49l0 (m : Nat) : SumK := fun vals s =>
 match vals, s.h with
 | [.string x0, .int .i64 x1, .int .i64 x2], [] => [((Nat.beq (r49l0 m x0 x1 x2) 0), .ret, [.bool false], st0), ((Nat.beq (r49l0 m x0 x1 x2) 1), .exit 0, [anyV], st0)]
 | _, _ => noQ vals s
noncomputable def w49l0 (ih : ByteArray → Int → Int → Nat) (x0 : ByteArray) (x1 x2 : Int) : Option (Fin' × List Value × St) :=
 (cond (decide ((x2 : Int) < x1))
 (cond ((decide ((0 : Int) ≤ x2)) && (Nat.blt (Int.toNat x2) (x0.size)))
  (cond (decide ((((UInt8.toNat (List.getD (ByteArray.data x0).toList (Int.toNat x2) 0) : Nat) : Int) : Int) < 97))
   (a49l0 x0 x1 x2 (0))
   (cond ((decide ((0 : Int) ≤ x2)) && (Nat.blt (Int.toNat x2) (x0.size)))
    (cond (decide ((((UInt8.toNat (List.getD (ByteArray.data x0).toList (Int.toNat x2) 0) : Nat) : Int) : Int) > 122))
     (a49l0 x0 x1 x2 (0))
     (u49l0 x0 x1 x2 (ih x0 x1 (IntKind.i64.wrap (x2 + 1)))))
    none))
  none)
 (a49l0 x0 x1 x2 (1)))
set_option maxRecDepth 100000 in
set_option maxHeartbeats 4000000 in
theorem e49l0 (m : Nat) (x0 : ByteArray) (x1 x2 : Int) : evC Tryd.prog ext T22 noL 200 (loopN Tryd.f49 0) (loopTail ([0, 17, 18], []) [2] [] (sumK 32 [0, 17, 18] [2] (q49l0 m))) (frameOf 32 [0, 17, 18] [.string x0, vi x1, vi x2]) ⟨[], 0, []⟩ = firstT ([((Nat.beq (r49l0 (m + 1) x0 x1 x2) 0), .ret, [.bool false], st0), ((Nat.beq (r49l0 (m + 1) x0 x1 x2) 1), .exit 0, [anyV], st0)].map fun (b, x) => (b, (x.1, frameOf 32 [2] x.2.1, x.2.2))) :=
 (show evC Tryd.prog ext T22 noL 200 (loopN Tryd.f49 0) (loopTail ([0, 17, 18], []) [2] [] (sumK 32 [0, 17, 18] [2] (q49l0 m))) (frameOf 32 [0, 17, 18] [.string x0, vi x1, vi x2]) ⟨[], 0, []⟩ = w49l0 (r49l0 m) x0 x1 x2 from by kernel_rfl).trans
 (show w49l0 (r49l0 m) x0 x1 x2 = a49l0 x0 x1 x2 (r49l0 (m + 1) x0 x1 x2) from by unfold w49l0; show _ = a49l0 x0 x1 x2 (b49l0 (r49l0 m) x0 x1 x2); unfold b49l0; exact (cond_both (a49l0 x0 x1 x2) _ (fun h0 => (cond_both (a49l0 x0 x1 x2) _ (fun h1 => (cond_both (a49l0 x0 x1 x2) _ (fun h2 => rfl) (fun h2 => (cond_t h1 (cond_app (a49l0 x0 x1 x2) _ rfl (v49l0 x0 x1 x2 ((r49l0 m) x0 x1 (IntKind.i64.wrap (x2 + 1))))))))) (fun h1 => rfl))) (fun h0 => rfl)))
set_option maxRecDepth 100000 in
set_option maxHeartbeats 4000000 in
theorem qm49l0 : ∀ m, SumKOk Tryd.prog (loopN Tryd.f49 0) 32 [0, 17, 18] [2] (q49l0 m) := by
  intro m
  induction m with
  | zero =>
    intro vals s x h1 h2 h3
    unfold q49l0 at h3; split at h3
    · rename_i h; exact absurd h3 (by simp [r49l0, firstT, Nat.beq])
    · exact noQ_ok _ _ _ h1 h2 h3
  | succ m ih =>
    intro vals s x h1 h2 h3
    unfold q49l0 at h3; split at h3
    · rename_i h; exact sum_step ok22 extOk mixed ((lfOkF_no _ _).inner (by kernel_rfl)) ih h1 h2 h (e49l0 m _ _ _) rfl h3
    · exact noQ_ok _ _ _ h1 h2 h3
noncomputable def Q49l0 : SumK := fun vals s => q49l0 (fuelOf vals s.h) vals s
theorem qok49l0 : SumKOk Tryd.prog (loopN Tryd.f49 0) 32 [0, 17, 18] [2] Q49l0 := fuel_ok qm49l0 fuelOf
noncomputable def L49_1 : LoopT := addL noL 5 ([0, 17, 18], []) (sumK 32 [0, 17, 18] [2] Q49l0)
theorem lok49_1 : LfOkF Tryd.prog L49_1 Tryd.f49 := lfOkF_add (lfOkF_no _ _) qok49l0 (by kernel_rfl) (by kernel_rfl) (by kernel_rfl)

/-- impl.isName -/
noncomputable def w49 {α : Type} (x0 : ByteArray) (k : (Nat × Bool) → α) : α :=
 let c145 := (r49l0 (1000 + (x0.size)) x0 (((x0.size) : Nat) : Int) 0)
 cond (decide (((((x0.size) : Nat) : Int) : Int) < 1))
  (k (0, false))
  (cond (decide (((((x0.size) : Nat) : Int) : Int) > 8))
   (k (0, false))
   (cond (r79 x0)
    (k (0, false))
    (cond (Nat.beq c145 0)
     (k (0, false))
     (cond (Nat.beq c145 1)
      (k (0, true))
      (k (1, false))))))
noncomputable def r49 (x0 : ByteArray) : Nat × Bool := w49 x0 (fun p => p)
noncomputable def g49 (x0 : ByteArray) (p : Nat × Bool) : List (Bool × Value × St) := [((Nat.beq (p.1) 0), .bool (p.2), st0)]
theorem p49 {α : Type} (x0 : ByteArray) (f : (Nat × Bool) → α) : w49 x0 f = f (w49 x0 (fun p => p)) := by unfold w49; repeat' (first | refine cond_app f _ ?_ ?_ | rfl)
set_option maxRecDepth 100000 in
set_option maxHeartbeats 4000000 in
theorem e49 (x0 : ByteArray) : evFn Tryd.prog ext T22 L49_1 200 Tryd.f49 [.string x0] st0 = firstT (g49 x0 (r49 x0)) :=
 Eq.trans (by kernel_rfl) (p49 x0 (fun p => firstT (g49 x0 p)))
noncomputable def s49 (args : List Value) (s : St) : List (Bool × Value × St) :=
 match args, s.h with
 | [.string x0], [] => (g49 x0 (r49 x0))
 | _, _ => T22 49 args s
noncomputable def T23 : CallF := addF T22 49 s49
set_option maxRecDepth 100000 in
set_option maxHeartbeats 4000000 in
theorem ok23 : CfOk Tryd.prog T23 := by
  refine cfOk_add ok22 fun args s r s' h1 h2 h3 => ?_
  unfold s49 at h3; split at h3
  · rename_i h; exact callOk ok22 Tryd.func49 h1 h2 h lok49_1.body (e49 _) rfl h3
  · exact ok22 _ _ _ _ _ h1 h2 h3

/-- slices.Index[[]string,string], loop 0 -/
noncomputable def w80l0 {α : Type} (x0 : ByteArray) (k : Unit → α) : α :=
 k ()
noncomputable def r80l0 (x0 : ByteArray) : Unit := w80l0 x0 (fun p => p)
noncomputable def g80l0 (x0 : ByteArray) (p : Unit) : List (Bool × (Fin' × List Value × St)) := [(true, .exit 0, [anyV], st0)]
theorem p80l0 {α : Type} (x0 : ByteArray) (f : Unit → α) : w80l0 x0 f = f (w80l0 x0 (fun p => p)) := by unfold w80l0; exact rfl
set_option maxRecDepth 100000 in
set_option maxHeartbeats 4000000 in
theorem e80l0 (x0 : ByteArray) : evC Tryd.prog ext T23 noL 200 (loopN Tryd.f80 0) (loopTail ([0, 1, 7, 8], []) [4] [] (sumK 19 [0, 1, 7, 8] [4] noQ)) (frameOf 19 [0, 1, 7, 8] [.iface 0 (.slice none 0 0), .string x0, vi 0, vi 0]) ⟨[], 0, []⟩ = firstT ((g80l0 x0 (r80l0 x0)).map fun (b, x) => (b, (x.1, frameOf 19 [4] x.2.1, x.2.2))) :=
 Eq.trans (by kernel_rfl) (p80l0 x0 (fun p => firstT ((g80l0 x0 p).map fun (b, x) => (b, (x.1, frameOf 19 [4] x.2.1, x.2.2)))))
noncomputable def Q80l0 : SumK := fun vals s =>
 match vals, s.h with
 | [.iface f0 (.slice none f1 f2), .string x0, .int .i64 f3, .int .i64 f4], [] => if f0 = 0 ∧ f1 = 0 ∧ f2 = 0 ∧ f3 = 0 ∧ f4 = 0 then (g80l0 x0 (r80l0 x0)) else noQ vals s
 | _, _ => noQ vals s
set_option maxRecDepth 100000 in
set_option maxHeartbeats 4000000 in
theorem qok80l0 : SumKOk Tryd.prog (loopN Tryd.f80 0) 19 [0, 1, 7, 8] [4] Q80l0 := by
  intro vals s x h1 h2 h3
  unfold Q80l0 at h3; split at h3
  · rename_i h; split at h3
    · rename_i hc; obtain ⟨rfl, rfl, rfl, rfl, rfl⟩ := hc; exact sum_step ok23 extOk mixed ((lfOkF_no _ _).inner (by kernel_rfl)) noQ_ok h1 h2 h (e80l0 _) rfl h3
    · exact noQ_ok _ _ _ h1 h2 h3
  · exact noQ_ok _ _ _ h1 h2 h3
noncomputable def L80_1 : LoopT := addL noL 3 ([0, 1, 7, 8], []) (sumK 19 [0, 1, 7, 8] [4] Q80l0)
theorem lok80_1 : LfOkF Tryd.prog L80_1 Tryd.f80 := lfOkF_add (lfOkF_no _ _) qok80l0 (by kernel_rfl) (by kernel_rfl) (by kernel_rfl)

/-- slices.Index[[]string,string] -/
noncomputable def w80 {α : Type} (x0 : ByteArray) (k : Unit → α) : α :=
 k ()
noncomputable def r80 (x0 : ByteArray) : Unit := w80 x0 (fun p => p)
noncomputable def g80 (x0 : ByteArray) (p : Unit) : List (Bool × Value × St) := [(true, vi (-1), st0)]
theorem p80 {α : Type} (x0 : ByteArray) (f : Unit → α) : w80 x0 f = f (w80 x0 (fun p => p)) := by unfold w80; exact rfl
set_option maxRecDepth 100000 in
set_option maxHeartbeats 4000000 in
theorem e80 (x0 : ByteArray) : evFn Tryd.prog ext T23 L80_1 200 Tryd.f80 [.iface 0 (.slice none 0 0), .string x0] st0 = firstT (g80 x0 (r80 x0)) :=
 Eq.trans (by kernel_rfl) (p80 x0 (fun p => firstT (g80 x0 p)))
noncomputable def s80 (args : List Value) (s : St) : List (Bool × Value × St) :=
 match args, s.h with
 | [.iface f0 (.slice none f1 f2), .string x0], [] => if f0 = 0 ∧ f1 = 0 ∧ f2 = 0 then (g80 x0 (r80 x0)) else T23 80 args s
 | _, _ => T23 80 args s
noncomputable def T24 : CallF := addF T23 80 s80
set_option maxRecDepth 100000 in
set_option maxHeartbeats 4000000 in
theorem ok24 : CfOk Tryd.prog T24 := by
  refine cfOk_add ok23 fun args s r s' h1 h2 h3 => ?_
  unfold s80 at h3; split at h3
  · rename_i h; split at h3
    · rename_i hc; obtain ⟨rfl, rfl, rfl⟩ := hc; exact callOk ok23 Tryd.func80 h1 h2 h lok80_1.body (e80 _) rfl h3
    · exact ok23 _ _ _ _ _ h1 h2 h3
  · exact ok23 _ _ _ _ _ h1 h2 h3

/-- slices.Contains[[]string,string] -/
noncomputable def w50 {α : Type} (x0 : ByteArray) (k : Unit → α) : α :=
 k ()
noncomputable def r50 (x0 : ByteArray) : Unit := w50 x0 (fun p => p)
noncomputable def g50 (x0 : ByteArray) (p : Unit) : List (Bool × Value × St) := [(true, .bool false, st0)]
theorem p50 {α : Type} (x0 : ByteArray) (f : Unit → α) : w50 x0 f = f (w50 x0 (fun p => p)) := by unfold w50; exact rfl
set_option maxRecDepth 100000 in
set_option maxHeartbeats 4000000 in
theorem e50 (x0 : ByteArray) : evFn Tryd.prog ext T24 noL 200 Tryd.f50 [.iface 0 (.slice none 0 0), .string x0] st0 = firstT (g50 x0 (r50 x0)) :=
 Eq.trans (by kernel_rfl) (p50 x0 (fun p => firstT (g50 x0 p)))
noncomputable def s50 (args : List Value) (s : St) : List (Bool × Value × St) :=
 match args, s.h with
 | [.iface f0 (.slice none f1 f2), .string x0], [] => if f0 = 0 ∧ f1 = 0 ∧ f2 = 0 then (g50 x0 (r50 x0)) else T24 50 args s
 | _, _ => T24 50 args s
noncomputable def T25 : CallF := addF T24 50 s50
set_option maxRecDepth 100000 in
set_option maxHeartbeats 4000000 in
theorem ok25 : CfOk Tryd.prog T25 := by
  refine cfOk_add ok24 fun args s r s' h1 h2 h3 => ?_
  unfold s50 at h3; split at h3
  · rename_i h; split at h3
    · rename_i hc; obtain ⟨rfl, rfl, rfl⟩ := hc; exact callOk ok24 Tryd.func50 h1 h2 h (lfOkF_no _ _).body (e50 _) rfl h3
    · exact ok24 _ _ _ _ _ h1 h2 h3
  · exact ok24 _ _ _ _ _ h1 h2 h3

/-- slices.Index[[]string,string], loop 0: one round -/
noncomputable def w80l0b {α : Type} (ih : Nat → Nat → ByteArray → Int → Int → List ByteArray → (Nat × Int)) (x0 x1 : Nat) (x2 : ByteArray) (x3 x4 : Int) (x5 : List ByteArray) (k k2 : (Nat × Int) → α) : α :=
 cond (decide ((x4 : Int) < x3))
  (cond ((decide ((0 : Int) ≤ x4)) && (Nat.blt (Int.toNat x4) x0))
   (cond (Nat.blt (0 + (Int.toNat x4)) x5.length)
    (cond (x2.toList == (x5.getD (0 + (Int.toNat x4)) .empty).toList)
     (k (0, x4))
     (k2 (ih x0 x1 x2 x3 (IntKind.i64.wrap (x4 + 1)) x5)))
    (k (2, 0)))
   (k (2, 0)))
  (k (1, 0))
noncomputable def b80l0b (ih : Nat → Nat → ByteArray → Int → Int → List ByteArray → (Nat × Int)) (x0 x1 : Nat) (x2 : ByteArray) (x3 x4 : Int) (x5 : List ByteArray) : Nat × Int := w80l0b ih x0 x1 x2 x3 x4 x5 (fun p => p) (fun p => p)
noncomputable def r80l0b : Nat → Nat → Nat → ByteArray → Int → Int → List ByteArray → (Nat × Int)
 | 0 => fun _ _ _ _ _ _ => (2, 0)
 | m + 1 => b80l0b (r80l0b m)
noncomputable def g80l0b (x0 x1 : Nat) (x2 : ByteArray) (x3 x4 : Int) (x5 : List ByteArray) (p : Nat × Int) : List (Bool × (Fin' × List Value × St)) := [((Nat.beq (p.1) 0), .ret, [vi (p.2)], ⟨[⟨true, (some (.strs x5))⟩], 1, []⟩), ((Nat.beq (p.1) 1), .exit 0, [anyV], ⟨[⟨true, (some (.strs x5))⟩], 1, []⟩)]
noncomputable def a80l0b (x0 x1 : Nat) (x2 : ByteArray) (x3 x4 : Int) (x5 : List ByteArray) (p : Nat × Int) : Option (Fin' × List Value × St) := firstT ((g80l0b x0 x1 x2 x3 x4 x5 p).map fun (b, x) => (b, (x.1, frameOf 19 [4] x.2.1, x.2.2)))
noncomputable def u80l0b (x0 x1 : Nat) (x2 : ByteArray) (x3 x4 : Int) (x5 : List ByteArray) (p : Nat × Int) : Option (Fin' × List Value × St) := alts ((g80l0b x0 x1 x2 x3 x4 x5 p).map fun (b, x) => (b, (x.1, frameOf 19 [4] x.2.1, x.2.2))) some
theorem v80l0b (x0 x1 : Nat) (x2 : ByteArray) (x3 x4 : Int) (x5 : List ByteArray) (p : Nat × Int) : u80l0b x0 x1 x2 x3 x4 x5 p = a80l0b x0 x1 x2 x3 x4 x5 p := alts_first _
noncomputable def q80l0b (m : Nat) : SumK := fun vals s =>
 match vals, s.h with
 | [.slice (some ⟨f0, f1, some f2⟩) x0 x1, .string x2, .int .i64 x3, .int .i64 x4], [⟨true, some (.strs x5)⟩] => if f0 = 0 ∧ f1 = 0 ∧ f2 = 0 then (g80l0b x0 x1 x2 x3 x4 x5 (r80l0b m x0 x1 x2 x3 x4 x5)) else Q80l0 vals s
 | _, _ => Q80l0 vals s
theorem p80l0b {α : Type} (ih : Nat → Nat → ByteArray → Int → Int → List ByteArray → (Nat × Int)) (x0 x1 : Nat) (x2 : ByteArray) (x3 x4 : Int) (x5 : List ByteArray) (f : (Nat × Int) → α) (u : (Nat × Int) → α) (h : ∀ p, u p = f p) : w80l0b ih x0 x1 x2 x3 x4 x5 f u = f (w80l0b ih x0 x1 x2 x3 x4 x5 (fun p => p) (fun p => p)) := by unfold w80l0b; repeat' (first | refine cond_app f _ ?_ ?_ | rfl | exact h _)
set_option maxRecDepth 100000 in
set_option maxHeartbeats 4000000 in
theorem e80l0b (m : Nat) (x0 x1 : Nat) (x2 : ByteArray) (x3 x4 : Int) (x5 : List ByteArray) : evC Tryd.prog ext T25 L80_1 200 (loopN Tryd.f80 0) (loopTail ([0, 1, 7, 8], []) [4] [] (sumK 19 [0, 1, 7, 8] [4] (q80l0b m))) (frameOf 19 [0, 1, 7, 8] [.slice (some ⟨0, 0, some 0⟩) x0 x1, .string x2, vi x3, vi x4]) ⟨[⟨true, (some (.strs x5))⟩], 1, []⟩ = firstT ((g80l0b x0 x1 x2 x3 x4 x5 (r80l0b (m + 1) x0 x1 x2 x3 x4 x5)).map fun (b, x) => (b, (x.1, frameOf 19 [4] x.2.1, x.2.2))) :=
 Eq.trans (by kernel_rfl) (p80l0b (r80l0b m) x0 x1 x2 x3 x4 x5 (a80l0b x0 x1 x2 x3 x4 x5) (u80l0b x0 x1 x2 x3 x4 x5) (v80l0b x0 x1 x2 x3 x4 x5))
set_option maxRecDepth 100000 in
set_option maxHeartbeats 4000000 in
theorem qm80l0b : ∀ m, SumKOk Tryd.prog (loopN Tryd.f80 0) 19 [0, 1, 7, 8] [4] (q80l0b m) := by
  intro m
  induction m with
  | zero =>
    intro vals s x h1 h2 h3
    unfold q80l0b at h3; split at h3
    · rename_i h; split at h3
      · rename_i hc; obtain ⟨rfl, rfl, rfl⟩ := hc; exact absurd h3 (by simp [r80l0b, g80l0b, firstT, Nat.beq])
      · exact qok80l0 _ _ _ h1 h2 h3
    · exact qok80l0 _ _ _ h1 h2 h3
  | succ m ih =>
    intro vals s x h1 h2 h3
    unfold q80l0b at h3; split at h3
    · rename_i h; split at h3
      · rename_i hc; obtain ⟨rfl, rfl, rfl⟩ := hc; exact sum_step ok25 extOk mixed (lok80_1.inner (by kernel_rfl)) ih h1 h2 h (e80l0b m _ _ _ _ _ _) rfl h3
      · exact qok80l0 _ _ _ h1 h2 h3
    · exact qok80l0 _ _ _ h1 h2 h3
noncomputable def Q80l0b : SumK := fun vals s => q80l0b (fuelOf vals s.h) vals s
theorem qok80l0b : SumKOk Tryd.prog (loopN Tryd.f80 0) 19 [0, 1, 7, 8] [4] Q80l0b := fuel_ok qm80l0b fuelOf
noncomputable def L80_2 : LoopT := addL L80_1 3 ([0, 1, 7, 8], []) (sumK 19 [0, 1, 7, 8] [4] Q80l0b)
theorem lok80_2 : LfOkF Tryd.prog L80_2 Tryd.f80 := lfOkF_add lok80_1 qok80l0b (by kernel_rfl) (by kernel_rfl) (by kernel_rfl)

/-- slices.Index[[]string,string] -/
noncomputable def w80b {α : Type} (x0 x1 : Nat) (x2 : ByteArray) (x3 : List ByteArray) (k : (Nat × Int) → α) : α :=
 let c150 := (r80l0b (1000 + x3.length + (x2.size)) x0 x1 x2 ((x0 : Nat) : Int) 0 x3)
 cond (Nat.beq (c150.1) 0)
  (k (0, (c150.2)))
  (cond (Nat.beq (c150.1) 1)
   (k (0, (-1)))
   (k (1, 0)))
noncomputable def r80b (x0 x1 : Nat) (x2 : ByteArray) (x3 : List ByteArray) : Nat × Int := w80b x0 x1 x2 x3 (fun p => p)
noncomputable def g80b (x0 x1 : Nat) (x2 : ByteArray) (x3 : List ByteArray) (p : Nat × Int) : List (Bool × Value × St) := [((Nat.beq (p.1) 0), vi (p.2), ⟨[⟨true, (some (.strs x3))⟩], 1, []⟩)]
theorem p80b {α : Type} (x0 x1 : Nat) (x2 : ByteArray) (x3 : List ByteArray) (f : (Nat × Int) → α) : w80b x0 x1 x2 x3 f = f (w80b x0 x1 x2 x3 (fun p => p)) := by unfold w80b; exact (cond_app f _ rfl (cond_app f _ rfl rfl))
set_option maxRecDepth 100000 in
set_option maxHeartbeats 4000000 in
theorem e80b (x0 x1 : Nat) (x2 : ByteArray) (x3 : List ByteArray) : evFn Tryd.prog ext T25 L80_2 200 Tryd.f80 [.slice (some ⟨0, 0, some 0⟩) x0 x1, .string x2] ⟨[⟨true, (some (.strs x3))⟩], 1, []⟩ = firstT (g80b x0 x1 x2 x3 (r80b x0 x1 x2 x3)) :=
 Eq.trans (by kernel_rfl) (p80b x0 x1 x2 x3 (fun p => firstT (g80b x0 x1 x2 x3 p)))
noncomputable def s80b (args : List Value) (s : St) : List (Bool × Value × St) :=
 match args, s.h with
 | [.slice (some ⟨f0, f1, some f2⟩) x0 x1, .string x2], [⟨true, some (.strs x3)⟩] => if f0 = 0 ∧ f1 = 0 ∧ f2 = 0 then (g80b x0 x1 x2 x3 (r80b x0 x1 x2 x3)) else T25 80 args s
 | _, _ => T25 80 args s
noncomputable def T26 : CallF := addF T25 80 s80b
set_option maxRecDepth 100000 in
set_option maxHeartbeats 4000000 in
theorem ok26 : CfOk Tryd.prog T26 := by
  refine cfOk_add ok25 fun args s r s' h1 h2 h3 => ?_
  unfold s80b at h3; split at h3
  · rename_i h; split at h3
    · rename_i hc; obtain ⟨rfl, rfl, rfl⟩ := hc; exact callOk ok25 Tryd.func80 h1 h2 h lok80_2.body (e80b _ _ _ _) rfl h3
    · exact ok25 _ _ _ _ _ h1 h2 h3
  · exact ok25 _ _ _ _ _ h1 h2 h3

/-- slices.Contains[[]string,string] -/
noncomputable def w50b {α : Type} (x0 x1 : Nat) (x2 : ByteArray) (x3 : List ByteArray) (k : (Nat × Bool) → α) : α :=
 cond (Nat.beq ((r80b x0 x1 x2 x3).1) 0)
  (k (0, (decide ((((r80b x0 x1 x2 x3).2) : Int) ≥ 0))))
  (k (1, false))
noncomputable def r50b (x0 x1 : Nat) (x2 : ByteArray) (x3 : List ByteArray) : Nat × Bool := w50b x0 x1 x2 x3 (fun p => p)
noncomputable def g50b (x0 x1 : Nat) (x2 : ByteArray) (x3 : List ByteArray) (p : Nat × Bool) : List (Bool × Value × St) := [((Nat.beq (p.1) 0), .bool (p.2), ⟨[⟨true, (some (.strs x3))⟩], 1, []⟩)]
theorem p50b {α : Type} (x0 x1 : Nat) (x2 : ByteArray) (x3 : List ByteArray) (f : (Nat × Bool) → α) : w50b x0 x1 x2 x3 f = f (w50b x0 x1 x2 x3 (fun p => p)) := by unfold w50b; exact (cond_app f _ rfl rfl)
set_option maxRecDepth 100000 in
set_option maxHeartbeats 4000000 in
theorem e50b (x0 x1 : Nat) (x2 : ByteArray) (x3 : List ByteArray) : evFn Tryd.prog ext T26 noL 200 Tryd.f50 [.slice (some ⟨0, 0, some 0⟩) x0 x1, .string x2] ⟨[⟨true, (some (.strs x3))⟩], 1, []⟩ = firstT (g50b x0 x1 x2 x3 (r50b x0 x1 x2 x3)) :=
 Eq.trans (by kernel_rfl) (p50b x0 x1 x2 x3 (fun p => firstT (g50b x0 x1 x2 x3 p)))
noncomputable def s50b (args : List Value) (s : St) : List (Bool × Value × St) :=
 match args, s.h with
 | [.slice (some ⟨f0, f1, some f2⟩) x0 x1, .string x2], [⟨true, some (.strs x3)⟩] => if f0 = 0 ∧ f1 = 0 ∧ f2 = 0 then (g50b x0 x1 x2 x3 (r50b x0 x1 x2 x3)) else T26 50 args s
 | _, _ => T26 50 args s
noncomputable def T27 : CallF := addF T26 50 s50b
set_option maxRecDepth 100000 in
set_option maxHeartbeats 4000000 in
theorem ok27 : CfOk Tryd.prog T27 := by
  refine cfOk_add ok26 fun args s r s' h1 h2 h3 => ?_
  unfold s50b at h3; split at h3
  · rename_i h; split at h3
    · rename_i hc; obtain ⟨rfl, rfl, rfl⟩ := hc; exact callOk ok26 Tryd.func50 h1 h2 h (lfOkF_no _ _).body (e50b _ _ _ _) rfl h3
    · exact ok26 _ _ _ _ _ h1 h2 h3
  · exact ok26 _ _ _ _ _ h1 h2 h3

/-- impl.ValidProgram, loop 0: one round -/
noncomputable def b23l0 (ih : Int → Int → List ByteArray → List (List Int) → Nat) (x0 x1 : Int) (x2 : List ByteArray) (x3 : List (List Int)) : Nat :=
 let c152 := (r50b (Int.toNat x1) x2.length (x2.getD (Int.toNat x1) .empty) x2)
 cond (decide ((x1 : Int) < x0))
  (cond ((decide ((0 : Int) ≤ x1)) && (Nat.blt (Int.toNat x1) x2.length))
   (cond (Nat.beq ((r49 (x2.getD (Int.toNat x1) .empty)).1) 0)
    (cond (!((r49 (x2.getD (Int.toNat x1) .empty)).2))
     (0)
     (cond ((Nat.blt 0 x2.length) && (((decide ((0 : Int) ≤ x1)) && (Nat.ble 0 (Int.toNat x1))) && (Nat.ble (Int.toNat x1) x2.length)))
      (cond (Nat.beq (c152.1) 0)
       (cond (c152.2)
        (0)
        (ih x0 (IntKind.i64.wrap (x1 + 1)) x2 x3))
       (2))
      (cond ((Nat.beq 0 x2.length) && (((decide ((0 : Int) ≤ x1)) && (Nat.ble 0 (Int.toNat x1))) && (Nat.ble (Int.toNat x1) x2.length)))
       (ih x0 (IntKind.i64.wrap (x1 + 1)) x2 x3)
       (2))))
    (2))
   (2))
  (1)
noncomputable def r23l0 : Nat → Int → Int → List ByteArray → List (List Int) → Nat
 | 0 => fun _ _ _ _ => (2)
 | m + 1 => b23l0 (r23l0 m)
noncomputable def a23l0 (x0 x1 : Int) (x2 : List ByteArray) (x3 : List (List Int)) (p : Nat) : Option (Fin' × List Value × St) := firstT ([((Nat.beq p 0), .ret, [vp 0, .bool false], ⟨[⟨true, (some (.cells [wsl 1, wsl 2]))⟩, ⟨true, (some (.strs x2))⟩, ⟨true, (some (.tab [.int .i8, .int .i16, .fl .f32] x3))⟩], 3, []⟩), ((Nat.beq p 1), .exit 0, [vp 0, anyV], ⟨[⟨true, (some (.cells [wsl 1, wsl 2]))⟩, ⟨true, (some (.strs x2))⟩, ⟨true, (some (.tab [.int .i8, .int .i16, .fl .f32] x3))⟩], 3, []⟩)].map fun (b, x) => (b, (x.1, frameOf 161 [1, 2] x.2.1, x.2.2)))
noncomputable def u23l0 (x0 x1 : Int) (x2 : List ByteArray) (x3 : List (List Int)) (p : Nat) : Option (Fin' × List Value × St) := alts ([((Nat.beq p 0), .ret, [vp 0, .bool false], ⟨[⟨true, (some (.cells [wsl 1, wsl 2]))⟩, ⟨true, (some (.strs x2))⟩, ⟨true, (some (.tab [.int .i8, .int .i16, .fl .f32] x3))⟩], 3, []⟩), ((Nat.beq p 1), .exit 0, [vp 0, anyV], ⟨[⟨true, (some (.cells [wsl 1, wsl 2]))⟩, ⟨true, (some (.strs x2))⟩, ⟨true, (some (.tab [.int .i8, .int .i16, .fl .f32] x3))⟩], 3, []⟩)].map fun (b, x) => (b, (x.1, frameOf 161 [1, 2] x.2.1, x.2.2))) some
theorem v23l0 (x0 x1 : Int) (x2 : List ByteArray) (x3 : List (List Int)) (p : Nat) : u23l0 x0 x1 x2 x3 p = a23l0 x0 x1 x2 x3 p := alts_first _
noncomputable def q23l0 (m : Nat) : SumK := fun vals s =>
 match vals, s.h with
 | [.pointer (some ⟨f0, f1, some f2⟩), .iface f3 .nilIface, .int .i64 x0, .int .i64 x1], [⟨true, some (.cells [.iface f4 .nilIface, .iface f5 .nilIface])⟩, ⟨true, some (.strs x2)⟩, ⟨true, some (.tab [.int .i8, .int .i16, .fl .f32] x3)⟩] => if f0 = 0 ∧ f1 = 0 ∧ f2 = 0 ∧ f3 = 1 ∧ f4 = 1 ∧ f5 = 2 then [((Nat.beq (r23l0 m x0 x1 x2 x3) 0), .ret, [vp 0, .bool false], ⟨[⟨true, (some (.cells [wsl 1, wsl 2]))⟩, ⟨true, (some (.strs x2))⟩, ⟨true, (some (.tab [.int .i8, .int .i16, .fl .f32] x3))⟩], 3, []⟩), ((Nat.beq (r23l0 m x0 x1 x2 x3) 1), .exit 0, [vp 0, anyV], ⟨[⟨true, (some (.cells [wsl 1, wsl 2]))⟩, ⟨true, (some (.strs x2))⟩, ⟨true, (some (.tab [.int .i8, .int .i16, .fl .f32] x3))⟩], 3, []⟩)] else noQ vals s
 | _, _ => noQ vals s
noncomputable def w23l0 (ih : Int → Int → List ByteArray → List (List Int) → Nat) (x0 x1 : Int) (x2 : List ByteArray) (x3 : List (List Int)) : Option (Fin' × List Value × St) :=
 let c152 := (r50b (Int.toNat x1) x2.length (x2.getD (Int.toNat x1) .empty) x2)
 (cond (decide ((x1 : Int) < x0))
 (cond ((decide ((0 : Int) ≤ x1)) && (Nat.blt (Int.toNat x1) x2.length))
  (cond (Nat.blt (Int.toNat x1) x2.length)
   (cond (Nat.beq ((r49 (x2.getD (Int.toNat x1) .empty)).1) 0)
    (cond (!((r49 (x2.getD (Int.toNat x1) .empty)).2))
     (a23l0 x0 x1 x2 x3 (0))
     (cond ((Nat.blt 0 x2.length) && (((decide ((0 : Int) ≤ x1)) && (Nat.ble 0 (Int.toNat x1))) && (Nat.ble (Int.toNat x1) x2.length)))
      (cond (Nat.beq (c152.1) 0)
       (cond (c152.2)
        (a23l0 x0 x1 x2 x3 (0))
        (u23l0 x0 x1 x2 x3 (ih x0 (IntKind.i64.wrap (x1 + 1)) x2 x3)))
       none)
      (cond ((Nat.beq 0 x2.length) && (((decide ((0 : Int) ≤ x1)) && (Nat.ble 0 (Int.toNat x1))) && (Nat.ble (Int.toNat x1) x2.length)))
       (u23l0 x0 x1 x2 x3 (ih x0 (IntKind.i64.wrap (x1 + 1)) x2 x3))
       none)))
    none)
   none)
  none)
 (a23l0 x0 x1 x2 x3 (1)))
set_option maxRecDepth 100000 in
set_option maxHeartbeats 4000000 in
theorem e23l0 (m : Nat) (x0 x1 : Int) (x2 : List ByteArray) (x3 : List (List Int)) : evC Tryd.prog ext T27 noL 200 (loopN Tryd.f23 0) (loopTail ([1, 23, 24, 25], []) [1, 2] [] (sumK 161 [1, 23, 24, 25] [1, 2] (q23l0 m))) (frameOf 161 [1, 23, 24, 25] [vp 0, wsl 1, vi x0, vi x1]) ⟨[⟨true, (some (.cells [wsl 1, wsl 2]))⟩, ⟨true, (some (.strs x2))⟩, ⟨true, (some (.tab [.int .i8, .int .i16, .fl .f32] x3))⟩], 3, []⟩ = firstT ([((Nat.beq (r23l0 (m + 1) x0 x1 x2 x3) 0), .ret, [vp 0, .bool false], ⟨[⟨true, (some (.cells [wsl 1, wsl 2]))⟩, ⟨true, (some (.strs x2))⟩, ⟨true, (some (.tab [.int .i8, .int .i16, .fl .f32] x3))⟩], 3, []⟩), ((Nat.beq (r23l0 (m + 1) x0 x1 x2 x3) 1), .exit 0, [vp 0, anyV], ⟨[⟨true, (some (.cells [wsl 1, wsl 2]))⟩, ⟨true, (some (.strs x2))⟩, ⟨true, (some (.tab [.int .i8, .int .i16, .fl .f32] x3))⟩], 3, []⟩)].map fun (b, x) => (b, (x.1, frameOf 161 [1, 2] x.2.1, x.2.2))) :=
 (show evC Tryd.prog ext T27 noL 200 (loopN Tryd.f23 0) (loopTail ([1, 23, 24, 25], []) [1, 2] [] (sumK 161 [1, 23, 24, 25] [1, 2] (q23l0 m))) (frameOf 161 [1, 23, 24, 25] [vp 0, wsl 1, vi x0, vi x1]) ⟨[⟨true, (some (.cells [wsl 1, wsl 2]))⟩, ⟨true, (some (.strs x2))⟩, ⟨true, (some (.tab [.int .i8, .int .i16, .fl .f32] x3))⟩], 3, []⟩ = w23l0 (r23l0 m) x0 x1 x2 x3 from by kernel_rfl).trans
 (show w23l0 (r23l0 m) x0 x1 x2 x3 = a23l0 x0 x1 x2 x3 (r23l0 (m + 1) x0 x1 x2 x3) from by unfold w23l0; show _ = a23l0 x0 x1 x2 x3 (b23l0 (r23l0 m) x0 x1 x2 x3); unfold b23l0; exact (cond_both (a23l0 x0 x1 x2 x3) _ (fun h0 => (cond_both (a23l0 x0 x1 x2 x3) _ (fun h1 => (cond_t (ev_and2 h1) (cond_app (a23l0 x0 x1 x2 x3) _ (cond_app (a23l0 x0 x1 x2 x3) _ rfl (cond_app (a23l0 x0 x1 x2 x3) _ (cond_app (a23l0 x0 x1 x2 x3) _ (cond_app (a23l0 x0 x1 x2 x3) _ rfl (v23l0 x0 x1 x2 x3 ((r23l0 m) x0 (IntKind.i64.wrap (x1 + 1)) x2 x3))) rfl) (cond_app (a23l0 x0 x1 x2 x3) _ (v23l0 x0 x1 x2 x3 ((r23l0 m) x0 (IntKind.i64.wrap (x1 + 1)) x2 x3)) rfl))) rfl))) (fun h1 => rfl))) (fun h0 => rfl)))
set_option maxRecDepth 100000 in
set_option maxHeartbeats 4000000 in
theorem qm23l0 : ∀ m, SumKOk Tryd.prog (loopN Tryd.f23 0) 161 [1, 23, 24, 25] [1, 2] (q23l0 m) := by
  intro m
  induction m with
  | zero =>
    intro vals s x h1 h2 h3
    unfold q23l0 at h3; split at h3
    · rename_i h; split at h3
      · rename_i hc; obtain ⟨rfl, rfl, rfl, rfl, rfl, rfl⟩ := hc; exact absurd h3 (by simp [r23l0, firstT, Nat.beq])
      · exact noQ_ok _ _ _ h1 h2 h3
    · exact noQ_ok _ _ _ h1 h2 h3
  | succ m ih =>
    intro vals s x h1 h2 h3
    unfold q23l0 at h3; split at h3
    · rename_i h; split at h3
      · rename_i hc; obtain ⟨rfl, rfl, rfl, rfl, rfl, rfl⟩ := hc; exact sum_step ok27 extOk mixed ((lfOkF_no _ _).inner (by kernel_rfl)) ih h1 h2 h (e23l0 m _ _ _ _) rfl h3
      · exact noQ_ok _ _ _ h1 h2 h3
    · exact noQ_ok _ _ _ h1 h2 h3
noncomputable def Q23l0 : SumK := fun vals s => q23l0 (fuelOf vals s.h) vals s
theorem qok23l0 : SumKOk Tryd.prog (loopN Tryd.f23 0) 161 [1, 23, 24, 25] [1, 2] Q23l0 := fuel_ok qm23l0 fuelOf
noncomputable def L23_1 : LoopT := addL noL 5 ([1, 23, 24, 25], []) (sumK 161 [1, 23, 24, 25] [1, 2] Q23l0)
theorem lok23_1 : LfOkF Tryd.prog L23_1 Tryd.f23 := lfOkF_add (lfOkF_no _ _) qok23l0 (by kernel_rfl) (by kernel_rfl) (by kernel_rfl)

/-- math.IsNaN -/
noncomputable def w81 {α : Type} (x0 : Nat) (k : Bool → α) : α :=
 k ((!feq .f64 x0 x0))
noncomputable def r81 (x0 : Nat) : Bool := w81 x0 (fun p => p)
noncomputable def g81 (x0 : Nat) (p : Bool) : List (Bool × Value × St) := [(true, .bool p, st0)]
theorem p81 {α : Type} (x0 : Nat) (f : Bool → α) : w81 x0 f = f (w81 x0 (fun p => p)) := by unfold w81; exact rfl
set_option maxRecDepth 100000 in
set_option maxHeartbeats 4000000 in
theorem e81 (x0 : Nat) : evFn Tryd.prog ext T27 noL 200 Tryd.f81 [.float .f64 x0] st0 = firstT (g81 x0 (r81 x0)) :=
 Eq.trans (by kernel_rfl) (p81 x0 (fun p => firstT (g81 x0 p)))
noncomputable def s81 (args : List Value) (s : St) : List (Bool × Value × St) :=
 match args, s.h with
 | [.float .f64 x0], [] => (g81 x0 (r81 x0))
 | _, _ => T27 81 args s
noncomputable def T28 : CallF := addF T27 81 s81
set_option maxRecDepth 100000 in
set_option maxHeartbeats 4000000 in
theorem ok28 : CfOk Tryd.prog T28 := by
  refine cfOk_add ok27 fun args s r s' h1 h2 h3 => ?_
  unfold s81 at h3; split at h3
  · rename_i h; exact callOk ok27 Tryd.func81 h1 h2 h (lfOkF_no _ _).body (e81 _) rfl h3
  · exact ok27 _ _ _ _ _ h1 h2 h3

/-- math.Abs -/
noncomputable def w91 {α : Type} (x0 : Nat) (k : Nat → α) : α :=
 cond (!isN .f64 x0)
  (k ((Int.toNat (bits .andNot .u64 ((x0 : Nat) : Int) 9223372036854775808))))
  (k (9221120237041090560))
noncomputable def r91 (x0 : Nat) : Nat := w91 x0 (fun p => p)
noncomputable def g91 (x0 : Nat) (p : Nat) : List (Bool × Value × St) := [(true, .float .f64 p, st0)]
theorem p91 {α : Type} (x0 : Nat) (f : Nat → α) : w91 x0 f = f (w91 x0 (fun p => p)) := by unfold w91; exact (cond_app f _ rfl rfl)
set_option maxRecDepth 100000 in
set_option maxHeartbeats 4000000 in
theorem e91 (x0 : Nat) : evFn Tryd.prog ext T28 noL 200 Tryd.f91 [.float .f64 x0] st0 = firstT (g91 x0 (r91 x0)) :=
 Eq.trans (by kernel_rfl) (p91 x0 (fun p => firstT (g91 x0 p)))
noncomputable def s91 (args : List Value) (s : St) : List (Bool × Value × St) :=
 match args, s.h with
 | [.float .f64 x0], [] => (g91 x0 (r91 x0))
 | _, _ => T28 91 args s
noncomputable def T29 : CallF := addF T28 91 s91
set_option maxRecDepth 100000 in
set_option maxHeartbeats 4000000 in
theorem ok29 : CfOk Tryd.prog T29 := by
  refine cfOk_add ok28 fun args s r s' h1 h2 h3 => ?_
  unfold s91 at h3; split at h3
  · rename_i h; exact callOk ok28 Tryd.func91 h1 h2 h (lfOkF_no _ _).body (e91 _) rfl h3
  · exact ok28 _ _ _ _ _ h1 h2 h3

/-- math.IsInf -/
noncomputable def w82 {α : Type} (x0 : Nat) (x1 : Int) (k : Bool → α) : α :=
 cond ((x1 : Int) == 0)
  (k ((fgt .f64 (r91 x0) 9218868437227405311)))
  (cond (decide ((x1 : Int) < 0))
   (k ((fgt .f64 (fneg .f64 x0) 9218868437227405311)))
   (k ((fgt .f64 x0 9218868437227405311))))
noncomputable def r82 (x0 : Nat) (x1 : Int) : Bool := w82 x0 x1 (fun p => p)
noncomputable def g82 (x0 : Nat) (x1 : Int) (p : Bool) : List (Bool × Value × St) := [(true, .bool p, st0)]
theorem p82 {α : Type} (x0 : Nat) (x1 : Int) (f : Bool → α) : w82 x0 x1 f = f (w82 x0 x1 (fun p => p)) := by unfold w82; exact (cond_app f _ rfl (cond_app f _ rfl rfl))
set_option maxRecDepth 100000 in
set_option maxHeartbeats 4000000 in
theorem e82 (x0 : Nat) (x1 : Int) : evFn Tryd.prog ext T29 noL 200 Tryd.f82 [.float .f64 x0, vi x1] st0 = firstT (g82 x0 x1 (r82 x0 x1)) :=
 Eq.trans (by kernel_rfl) (p82 x0 x1 (fun p => firstT (g82 x0 x1 p)))
noncomputable def s82 (args : List Value) (s : St) : List (Bool × Value × St) :=
 match args, s.h with
 | [.float .f64 x0, .int .i64 x1], [] => (g82 x0 x1 (r82 x0 x1))
 | _, _ => T29 82 args s
noncomputable def T30 : CallF := addF T29 82 s82
set_option maxRecDepth 100000 in
set_option maxHeartbeats 4000000 in
theorem ok30 : CfOk Tryd.prog T30 := by
  refine cfOk_add ok29 fun args s r s' h1 h2 h3 => ?_
  unfold s82 at h3; split at h3
  · rename_i h; exact callOk ok29 Tryd.func82 h1 h2 h (lfOkF_no _ _).body (e82 _ _) rfl h3
  · exact ok29 _ _ _ _ _ h1 h2 h3

/-- impl.isFinite -/
noncomputable def w51 {α : Type} (x0 : Nat) (k : Bool → α) : α :=
 cond (r81 (widen x0))
  (k (false))
  (cond (r82 (widen x0) 0)
   (k (false))
   (k (true)))
noncomputable def r51 (x0 : Nat) : Bool := w51 x0 (fun p => p)
noncomputable def g51 (x0 : Nat) (p : Bool) : List (Bool × Value × St) := [(true, .bool p, ⟨[⟨true, (some (.tab [.fl .f32] ([[((x0 : Nat) : Int)]] : List (List Int))))⟩], 1, []⟩)]
theorem p51 {α : Type} (x0 : Nat) (f : Bool → α) : w51 x0 f = f (w51 x0 (fun p => p)) := by unfold w51; exact (cond_app f _ rfl (cond_app f _ rfl rfl))
set_option maxRecDepth 100000 in
set_option maxHeartbeats 4000000 in
theorem e51 (x0 : Nat) : evFn Tryd.prog ext T30 noL 200 Tryd.f51 [.slice (some ⟨0, 0, some 0⟩) 1 1] ⟨[⟨true, (some (.tab [.fl .f32] ([[((x0 : Nat) : Int)]] : List (List Int))))⟩], 1, []⟩ = firstT (g51 x0 (r51 x0)) :=
 Eq.trans (by kernel_rfl) (p51 x0 (fun p => firstT (g51 x0 p)))
noncomputable def s51 (args : List Value) (s : St) : List (Bool × Value × St) :=
 match args, s.h with
 | [.slice (some ⟨f0, f1, some f2⟩) f3 f4], [⟨true, some (.tab [.fl .f32] [[.ofNat x0]])⟩] => if f0 = 0 ∧ f1 = 0 ∧ f2 = 0 ∧ f3 = 1 ∧ f4 = 1 then (g51 x0 (r51 x0)) else T30 51 args s
 | _, _ => T30 51 args s
noncomputable def T31 : CallF := addF T30 51 s51
set_option maxRecDepth 100000 in
set_option maxHeartbeats 4000000 in
theorem ok31 : CfOk Tryd.prog T31 := by
  refine cfOk_add ok30 fun args s r s' h1 h2 h3 => ?_
  unfold s51 at h3; split at h3
  · rename_i h; split at h3
    · rename_i hc; obtain ⟨rfl, rfl, rfl, rfl, rfl⟩ := hc; exact callOk ok30 Tryd.func51 h1 h2 h (lfOkF_no _ _).body (e51 _) rfl h3
    · exact ok30 _ _ _ _ _ h1 h2 h3
  · exact ok30 _ _ _ _ _ h1 h2 h3

/-- impl.isZero -/
noncomputable def w52 {α : Type} (x0 : Nat) (k : Bool → α) : α :=
 cond (!isN .f32 x0)
  (k (((((x0 : Nat) : Int) : Int) == 0)))
  (k (false))
noncomputable def r52 (x0 : Nat) : Bool := w52 x0 (fun p => p)
noncomputable def g52 (x0 : Nat) (p : Bool) : List (Bool × Value × St) := [(true, .bool p, st0)]
theorem p52 {α : Type} (x0 : Nat) (f : Bool → α) : w52 x0 f = f (w52 x0 (fun p => p)) := by unfold w52; exact (cond_app f _ rfl rfl)
set_option maxRecDepth 100000 in
set_option maxHeartbeats 4000000 in
theorem e52 (x0 : Nat) : evFn Tryd.prog ext T31 noL 200 Tryd.f52 [vf x0] st0 = firstT (g52 x0 (r52 x0)) :=
 Eq.trans (by kernel_rfl) (p52 x0 (fun p => firstT (g52 x0 p)))
noncomputable def s52 (args : List Value) (s : St) : List (Bool × Value × St) :=
 match args, s.h with
 | [.float .f32 x0], [] => (g52 x0 (r52 x0))
 | _, _ => T31 52 args s
noncomputable def T32 : CallF := addF T31 52 s52
set_option maxRecDepth 100000 in
set_option maxHeartbeats 4000000 in
theorem ok32 : CfOk Tryd.prog T32 := by
  refine cfOk_add ok31 fun args s r s' h1 h2 h3 => ?_
  unfold s52 at h3; split at h3
  · rename_i h; exact callOk ok31 Tryd.func52 h1 h2 h (lfOkF_no _ _).body (e52 _) rfl h3
  · exact ok31 _ _ _ _ _ h1 h2 h3

/-- impl.takes -/
noncomputable def r53 (x0 : Int) : Int × Int :=
 cond ((x0 : Int) == 1)
  (0, 1)
  (cond ((x0 : Int) == 2)
   (0, 1)
   (cond ((x0 : Int) == 3)
    (0, 1)
    (cond ((x0 : Int) == 4)
     (1, 0)
     (cond ((x0 : Int) == 12)
      (1, 1)
      (cond ((x0 : Int) == 11)
       (3, 1)
       (2, 1))))))
noncomputable def a53 (x0 : Int) (p : Int × Int) : Res := firstT [(true, .tuple #[vi (p.1), vi (p.2)], st0)]
noncomputable def w53 (x0 : Int) : Res :=
 (cond ((x0 : Int) == 1)
 (cond ((x0 : Int) == 1)
  (a53 x0 (0, 1))
  (cond ((x0 : Int) == 4)
   (some (.tuple #[vi 1, vi 0], st0))
   (cond ((x0 : Int) == 12)
    (some (.tuple #[vi 1, vi 1], st0))
    (cond ((x0 : Int) == 11)
     (some (.tuple #[vi 3, vi 1], st0))
     (some (.tuple #[vi 2, vi 1], st0))))))
 (cond ((x0 : Int) == 2)
  (cond ((x0 : Int) == 2)
   (a53 x0 (0, 1))
   (cond ((x0 : Int) == 4)
    (some (.tuple #[vi 1, vi 0], st0))
    (cond ((x0 : Int) == 12)
     (some (.tuple #[vi 1, vi 1], st0))
     (cond ((x0 : Int) == 11)
      (some (.tuple #[vi 3, vi 1], st0))
      (some (.tuple #[vi 2, vi 1], st0))))))
  (cond ((x0 : Int) == 3)
   (a53 x0 (0, 1))
   (cond ((x0 : Int) == 4)
    (a53 x0 (1, 0))
    (cond ((x0 : Int) == 12)
     (a53 x0 (1, 1))
     (cond ((x0 : Int) == 11)
      (a53 x0 (3, 1))
      (a53 x0 (2, 1))))))))
set_option maxRecDepth 100000 in
set_option maxHeartbeats 4000000 in
theorem e53 (x0 : Int) : evFn Tryd.prog ext T32 noL 200 Tryd.f53 [.int .i8 x0] st0 = firstT [(true, .tuple #[vi ((r53 x0).1), vi ((r53 x0).2)], st0)] :=
 (show evFn Tryd.prog ext T32 noL 200 Tryd.f53 [.int .i8 x0] st0 = w53 x0 from by kernel_rfl).trans
 (show w53 x0 = a53 x0 (r53 x0) from by unfold w53 r53; exact (cond_both (a53 x0) _ (fun h0 => (cond_t h0 rfl)) (fun h0 => (cond_both (a53 x0) _ (fun h1 => (cond_t h1 rfl)) (fun h1 => (cond_app (a53 x0) _ rfl (cond_app (a53 x0) _ rfl (cond_app (a53 x0) _ rfl (cond_app (a53 x0) _ rfl rfl)))))))))
noncomputable def s53 (args : List Value) (s : St) : List (Bool × Value × St) :=
 match args, s.h with
 | [.int .i8 x0], [] => [(true, .tuple #[vi ((r53 x0).1), vi ((r53 x0).2)], st0)]
 | _, _ => T32 53 args s
noncomputable def T33 : CallF := addF T32 53 s53
set_option maxRecDepth 100000 in
set_option maxHeartbeats 4000000 in
theorem ok33 : CfOk Tryd.prog T33 := by
  refine cfOk_add ok32 fun args s r s' h1 h2 h3 => ?_
  unfold s53 at h3; split at h3
  · rename_i h; exact callOk ok32 Tryd.func53 h1 h2 h (lfOkF_no _ _).body (e53 _) rfl h3
  · exact ok32 _ _ _ _ _ h1 h2 h3
end Go.Proofs.YtffpnkkhcgjmfaaDoor
