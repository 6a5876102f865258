/- What the functions that the statements reach answer, part 2. -/
import Derived.Test.YtbmagccjcccnaaaDr1
namespace Go.Proofs.Ytbmagccjcccnaaa
open Go.Ab
set_option maxHeartbeats 4000000

/-- spec.DropSpent, loop 0: one round -/
noncomputable def b24l0 (ih : Int → Nat → Nat → Int → Int → Nat → Nat → Nat → Nat → Nat → Nat → Int → Int → Nat → List (List Int) → List (List Int) → (Nat × List (List Int))) (x0 : Int) (x1 x2 : Nat) (x3 x4 : Int) (x5 x6 x7 x8 x9 x10 : Nat) (x11 x12 : Int) (x13 : Nat) (x14 x15 : List (List Int)) : Nat × List (List Int) :=
 cond (decide ((x0 : Int) < ((x14.length : Nat) : Int)))
  (cond ((decide ((0 : Int) ≤ x0)) && (Nat.blt (Int.toNat x0) x14.length))
   (cond (Nat.beq ((r58 (Int.toNat x0) x14).1) 0)
    (cond (fgt .f32 ((r58 (Int.toNat x0) x14).2) 1015021568 || feq .f32 ((r58 (Int.toNat x0) x14).2) 1015021568)
     (cond (Nat.ble ((x15.length + 1) * 73) 140737488355328)
      (cond (Nat.beq ((ih (IntKind.i64.wrap (x0 + 1)) x1 x2 x3 x4 x5 x6 x7 x8 x9 x10 x11 x12 x13 x14 (((x15.drop 0).take x15.length) ++ ([[(((Int.toNat ((x14.getD (Int.toNat x0) []).getD 0 0)) : Nat) : Int), (((Int.toNat ((x14.getD (Int.toNat x0) []).getD 1 0)) : Nat) : Int), (((Int.toNat ((x14.getD (Int.toNat x0) []).getD 2 0)) : Nat) : Int), (((Int.toNat ((x14.getD (Int.toNat x0) []).getD 3 0)) : Nat) : Int), (((Int.toNat ((x14.getD (Int.toNat x0) []).getD 4 0)) : Nat) : Int), (((Int.toNat ((x14.getD (Int.toNat x0) []).getD 5 0)) : Nat) : Int), (((Int.toNat ((x14.getD (Int.toNat x0) []).getD 6 0)) : Nat) : Int), (((Int.toNat ((x14.getD (Int.toNat x0) []).getD 7 0)) : Nat) : Int), (((Int.toNat ((x14.getD (Int.toNat x0) []).getD 8 0)) : Nat) : Int), (((Int.toNat ((x14.getD (Int.toNat x0) []).getD 9 0)) : Nat) : Int), (((Int.toNat ((x14.getD (Int.toNat x0) []).getD 10 0)) : Nat) : Int), (((Int.toNat ((x14.getD (Int.toNat x0) []).getD 11 0)) : Nat) : Int), (((Int.toNat ((x14.getD (Int.toNat x0) []).getD 12 0)) : Nat) : Int), (((Int.toNat ((x14.getD (Int.toNat x0) []).getD 13 0)) : Nat) : Int), (((Int.toNat ((x14.getD (Int.toNat x0) []).getD 14 0)) : Nat) : Int), (((Int.toNat ((x14.getD (Int.toNat x0) []).getD 15 0)) : Nat) : Int), (((Int.toNat ((x14.getD (Int.toNat x0) []).getD 16 0)) : Nat) : Int), (((Int.toNat ((x14.getD (Int.toNat x0) []).getD 17 0)) : Nat) : Int)]] : List (List Int)))).1) 0)
       (0, ((ih (IntKind.i64.wrap (x0 + 1)) x1 x2 x3 x4 x5 x6 x7 x8 x9 x10 x11 x12 x13 x14 (((x15.drop 0).take x15.length) ++ ([[(((Int.toNat ((x14.getD (Int.toNat x0) []).getD 0 0)) : Nat) : Int), (((Int.toNat ((x14.getD (Int.toNat x0) []).getD 1 0)) : Nat) : Int), (((Int.toNat ((x14.getD (Int.toNat x0) []).getD 2 0)) : Nat) : Int), (((Int.toNat ((x14.getD (Int.toNat x0) []).getD 3 0)) : Nat) : Int), (((Int.toNat ((x14.getD (Int.toNat x0) []).getD 4 0)) : Nat) : Int), (((Int.toNat ((x14.getD (Int.toNat x0) []).getD 5 0)) : Nat) : Int), (((Int.toNat ((x14.getD (Int.toNat x0) []).getD 6 0)) : Nat) : Int), (((Int.toNat ((x14.getD (Int.toNat x0) []).getD 7 0)) : Nat) : Int), (((Int.toNat ((x14.getD (Int.toNat x0) []).getD 8 0)) : Nat) : Int), (((Int.toNat ((x14.getD (Int.toNat x0) []).getD 9 0)) : Nat) : Int), (((Int.toNat ((x14.getD (Int.toNat x0) []).getD 10 0)) : Nat) : Int), (((Int.toNat ((x14.getD (Int.toNat x0) []).getD 11 0)) : Nat) : Int), (((Int.toNat ((x14.getD (Int.toNat x0) []).getD 12 0)) : Nat) : Int), (((Int.toNat ((x14.getD (Int.toNat x0) []).getD 13 0)) : Nat) : Int), (((Int.toNat ((x14.getD (Int.toNat x0) []).getD 14 0)) : Nat) : Int), (((Int.toNat ((x14.getD (Int.toNat x0) []).getD 15 0)) : Nat) : Int), (((Int.toNat ((x14.getD (Int.toNat x0) []).getD 16 0)) : Nat) : Int), (((Int.toNat ((x14.getD (Int.toNat x0) []).getD 17 0)) : Nat) : Int)]] : List (List Int)))).2))
       (cond (Nat.beq ((ih (IntKind.i64.wrap (x0 + 1)) x1 x2 x3 x4 x5 x6 x7 x8 x9 x10 x11 x12 x13 x14 (((x15.drop 0).take x15.length) ++ ([[(((Int.toNat ((x14.getD (Int.toNat x0) []).getD 0 0)) : Nat) : Int), (((Int.toNat ((x14.getD (Int.toNat x0) []).getD 1 0)) : Nat) : Int), (((Int.toNat ((x14.getD (Int.toNat x0) []).getD 2 0)) : Nat) : Int), (((Int.toNat ((x14.getD (Int.toNat x0) []).getD 3 0)) : Nat) : Int), (((Int.toNat ((x14.getD (Int.toNat x0) []).getD 4 0)) : Nat) : Int), (((Int.toNat ((x14.getD (Int.toNat x0) []).getD 5 0)) : Nat) : Int), (((Int.toNat ((x14.getD (Int.toNat x0) []).getD 6 0)) : Nat) : Int), (((Int.toNat ((x14.getD (Int.toNat x0) []).getD 7 0)) : Nat) : Int), (((Int.toNat ((x14.getD (Int.toNat x0) []).getD 8 0)) : Nat) : Int), (((Int.toNat ((x14.getD (Int.toNat x0) []).getD 9 0)) : Nat) : Int), (((Int.toNat ((x14.getD (Int.toNat x0) []).getD 10 0)) : Nat) : Int), (((Int.toNat ((x14.getD (Int.toNat x0) []).getD 11 0)) : Nat) : Int), (((Int.toNat ((x14.getD (Int.toNat x0) []).getD 12 0)) : Nat) : Int), (((Int.toNat ((x14.getD (Int.toNat x0) []).getD 13 0)) : Nat) : Int), (((Int.toNat ((x14.getD (Int.toNat x0) []).getD 14 0)) : Nat) : Int), (((Int.toNat ((x14.getD (Int.toNat x0) []).getD 15 0)) : Nat) : Int), (((Int.toNat ((x14.getD (Int.toNat x0) []).getD 16 0)) : Nat) : Int), (((Int.toNat ((x14.getD (Int.toNat x0) []).getD 17 0)) : Nat) : Int)]] : List (List Int)))).1) 1)
        (0, (((x15.drop 0).take x15.length) ++ ([[(((Int.toNat ((x14.getD (Int.toNat x0) []).getD 0 0)) : Nat) : Int), (((Int.toNat ((x14.getD (Int.toNat x0) []).getD 1 0)) : Nat) : Int), (((Int.toNat ((x14.getD (Int.toNat x0) []).getD 2 0)) : Nat) : Int), (((Int.toNat ((x14.getD (Int.toNat x0) []).getD 3 0)) : Nat) : Int), (((Int.toNat ((x14.getD (Int.toNat x0) []).getD 4 0)) : Nat) : Int), (((Int.toNat ((x14.getD (Int.toNat x0) []).getD 5 0)) : Nat) : Int), (((Int.toNat ((x14.getD (Int.toNat x0) []).getD 6 0)) : Nat) : Int), (((Int.toNat ((x14.getD (Int.toNat x0) []).getD 7 0)) : Nat) : Int), (((Int.toNat ((x14.getD (Int.toNat x0) []).getD 8 0)) : Nat) : Int), (((Int.toNat ((x14.getD (Int.toNat x0) []).getD 9 0)) : Nat) : Int), (((Int.toNat ((x14.getD (Int.toNat x0) []).getD 10 0)) : Nat) : Int), (((Int.toNat ((x14.getD (Int.toNat x0) []).getD 11 0)) : Nat) : Int), (((Int.toNat ((x14.getD (Int.toNat x0) []).getD 12 0)) : Nat) : Int), (((Int.toNat ((x14.getD (Int.toNat x0) []).getD 13 0)) : Nat) : Int), (((Int.toNat ((x14.getD (Int.toNat x0) []).getD 14 0)) : Nat) : Int), (((Int.toNat ((x14.getD (Int.toNat x0) []).getD 15 0)) : Nat) : Int), (((Int.toNat ((x14.getD (Int.toNat x0) []).getD 16 0)) : Nat) : Int), (((Int.toNat ((x14.getD (Int.toNat x0) []).getD 17 0)) : Nat) : Int)]] : List (List Int))))
        (2, [])))
      (2, []))
     (ih (IntKind.i64.wrap (x0 + 1)) x1 x2 x3 x4 x5 x6 x7 x8 x9 x10 x11 x12 x13 x14 x15))
    (2, []))
   (2, []))
  (1, [])
noncomputable def r24l0 : Nat → Int → Nat → Nat → Int → Int → Nat → Nat → Nat → Nat → Nat → Nat → Int → Int → Nat → List (List Int) → List (List Int) → (Nat × List (List Int))
 | 0, _, _, _, _, _, _, _, _, _, _, _, _, _, _, _, _ => (2, [])
 | m + 1, x0, x1, x2, x3, x4, x5, x6, x7, x8, x9, x10, x11, x12, x13, x14, x15 => b24l0 (r24l0 m) x0 x1 x2 x3 x4 x5 x6 x7 x8 x9 x10 x11 x12 x13 x14 x15
noncomputable def a24l0 (x0 : Int) (x1 x2 : Nat) (x3 x4 : Int) (x5 x6 x7 x8 x9 x10 : Nat) (x11 x12 : Int) (x13 : Nat) (x14 x15 : List (List Int)) (p : Nat × List (List Int)) : Option (Fin' × List Value × St) := firstT ([((Nat.beq (p.1) 0), .exit 0, [.pointer (some ⟨0, 0, some 0⟩), .pointer (some ⟨1, 0, some 0⟩), .pointer (some ⟨2, 0, some 0⟩)], ⟨[⟨true, (some (.cells [wsl 3, .float .f32 x1, .float .f32 x2, .int .i8 x3, .int .i64 x4, .float .f32 x5]))⟩, ⟨true, (some (.cells [.slice none 0 0, .float .f32 x6, .float .f32 x7, .int .i8 0, .int .i64 0, .float .f32 x8]))⟩, ⟨true, (some (.cells [wsl 5, .float .f32 x9, .float .f32 x10, .int .i8 x11, .int .i64 x12, .float .f32 x13]))⟩, ⟨true, (some (.tab sc0 x14))⟩, ⟨true, none⟩, ⟨true, (some (.tab sc0 (p.2)))⟩], 5, [2, 4]⟩), ((Nat.beq (p.1) 1), .exit 0, [.pointer (some ⟨0, 0, some 0⟩), .pointer (some ⟨1, 0, some 0⟩), .pointer (some ⟨2, 0, some 0⟩)], ⟨[⟨true, (some (.cells [wsl 3, .float .f32 x1, .float .f32 x2, .int .i8 x3, .int .i64 x4, .float .f32 x5]))⟩, ⟨true, (some (.cells [.slice none 0 0, .float .f32 x6, .float .f32 x7, .int .i8 0, .int .i64 0, .float .f32 x8]))⟩, ⟨true, (some (.cells [wsl 4, .float .f32 x9, .float .f32 x10, .int .i8 x11, .int .i64 x12, .float .f32 x13]))⟩, ⟨true, (some (.tab sc0 x14))⟩, ⟨true, (some (.tab sc0 x15))⟩], 5, [2, 4]⟩)].map fun (b, x) => (b, (x.1, frameOf 45 [1, 2, 5] x.2.1, x.2.2)))
theorem v24l0 (x0 : Int) (x1 x2 : Nat) (x3 x4 : Int) (x5 x6 x7 x8 x9 x10 : Nat) (x11 x12 : Int) (x13 : Nat) (x14 x15 : List (List Int)) (p : Nat × List (List Int)) : alts ([((Nat.beq (p.1) 0), .exit 0, [.pointer (some ⟨0, 0, some 0⟩), .pointer (some ⟨1, 0, some 0⟩), .pointer (some ⟨2, 0, some 0⟩)], ⟨[⟨true, (some (.cells [wsl 3, .float .f32 x1, .float .f32 x2, .int .i8 x3, .int .i64 x4, .float .f32 x5]))⟩, ⟨true, (some (.cells [.slice none 0 0, .float .f32 x6, .float .f32 x7, .int .i8 0, .int .i64 0, .float .f32 x8]))⟩, ⟨true, (some (.cells [wsl 5, .float .f32 x9, .float .f32 x10, .int .i8 x11, .int .i64 x12, .float .f32 x13]))⟩, ⟨true, (some (.tab sc0 x14))⟩, ⟨true, none⟩, ⟨true, (some (.tab sc0 (p.2)))⟩], 5, [2, 4]⟩), ((Nat.beq (p.1) 1), .exit 0, [.pointer (some ⟨0, 0, some 0⟩), .pointer (some ⟨1, 0, some 0⟩), .pointer (some ⟨2, 0, some 0⟩)], ⟨[⟨true, (some (.cells [wsl 3, .float .f32 x1, .float .f32 x2, .int .i8 x3, .int .i64 x4, .float .f32 x5]))⟩, ⟨true, (some (.cells [.slice none 0 0, .float .f32 x6, .float .f32 x7, .int .i8 0, .int .i64 0, .float .f32 x8]))⟩, ⟨true, (some (.cells [wsl 4, .float .f32 x9, .float .f32 x10, .int .i8 x11, .int .i64 x12, .float .f32 x13]))⟩, ⟨true, (some (.tab sc0 x14))⟩, ⟨true, (some (.tab sc0 x15))⟩], 5, [2, 4]⟩)].map fun (b, x) => (b, (x.1, frameOf 45 [1, 2, 5] x.2.1, x.2.2))) some = a24l0 x0 x1 x2 x3 x4 x5 x6 x7 x8 x9 x10 x11 x12 x13 x14 x15 p := alts_first _
noncomputable def q24l0 (m : Nat) : SumK := fun vals s =>
 match vals, s.h with
 | [.pointer (some ⟨f0, f1, some f2⟩), .pointer (some ⟨f3, f4, some f5⟩), .pointer (some ⟨f6, f7, some f8⟩), .int .i64 x0], [⟨true, some (.cells [.iface f9 .nilIface, .float .f32 x1, .float .f32 x2, .int .i8 x3, .int .i64 x4, .float .f32 x5])⟩, ⟨true, some (.cells [.slice none f10 f11, .float .f32 x6, .float .f32 x7, .int .i8 f12, .int .i64 f13, .float .f32 x8])⟩, ⟨true, some (.cells [.iface f14 .nilIface, .float .f32 x9, .float .f32 x10, .int .i8 x11, .int .i64 x12, .float .f32 x13])⟩, ⟨true, some (.tab [.fl .f32, .fl .f32, .fl .f32, .fl .f32, .fl .f32, .fl .f32, .fl .f32, .fl .f32, .fl .f32, .fl .f32, .fl .f32, .fl .f32, .fl .f32, .fl .f32, .fl .f32, .fl .f32, .fl .f32, .fl .f32] x14)⟩, ⟨true, some (.tab [.fl .f32, .fl .f32, .fl .f32, .fl .f32, .fl .f32, .fl .f32, .fl .f32, .fl .f32, .fl .f32, .fl .f32, .fl .f32, .fl .f32, .fl .f32, .fl .f32, .fl .f32, .fl .f32, .fl .f32, .fl .f32] x15)⟩] => if f0 = 0 ∧ f1 = 0 ∧ f2 = 0 ∧ f3 = 1 ∧ f4 = 0 ∧ f5 = 0 ∧ f6 = 2 ∧ f7 = 0 ∧ f8 = 0 ∧ f9 = 3 ∧ f10 = 0 ∧ f11 = 0 ∧ f12 = 0 ∧ f13 = 0 ∧ f14 = 4 then [((Nat.beq ((r24l0 m x0 x1 x2 x3 x4 x5 x6 x7 x8 x9 x10 x11 x12 x13 x14 x15).1) 0), .exit 0, [.pointer (some ⟨0, 0, some 0⟩), .pointer (some ⟨1, 0, some 0⟩), .pointer (some ⟨2, 0, some 0⟩)], ⟨[⟨true, (some (.cells [wsl 3, .float .f32 x1, .float .f32 x2, .int .i8 x3, .int .i64 x4, .float .f32 x5]))⟩, ⟨true, (some (.cells [.slice none 0 0, .float .f32 x6, .float .f32 x7, .int .i8 0, .int .i64 0, .float .f32 x8]))⟩, ⟨true, (some (.cells [wsl 5, .float .f32 x9, .float .f32 x10, .int .i8 x11, .int .i64 x12, .float .f32 x13]))⟩, ⟨true, (some (.tab sc0 x14))⟩, ⟨true, none⟩, ⟨true, (some (.tab sc0 ((r24l0 m x0 x1 x2 x3 x4 x5 x6 x7 x8 x9 x10 x11 x12 x13 x14 x15).2)))⟩], 5, [2, 4]⟩), ((Nat.beq ((r24l0 m x0 x1 x2 x3 x4 x5 x6 x7 x8 x9 x10 x11 x12 x13 x14 x15).1) 1), .exit 0, [.pointer (some ⟨0, 0, some 0⟩), .pointer (some ⟨1, 0, some 0⟩), .pointer (some ⟨2, 0, some 0⟩)], ⟨[⟨true, (some (.cells [wsl 3, .float .f32 x1, .float .f32 x2, .int .i8 x3, .int .i64 x4, .float .f32 x5]))⟩, ⟨true, (some (.cells [.slice none 0 0, .float .f32 x6, .float .f32 x7, .int .i8 0, .int .i64 0, .float .f32 x8]))⟩, ⟨true, (some (.cells [wsl 4, .float .f32 x9, .float .f32 x10, .int .i8 x11, .int .i64 x12, .float .f32 x13]))⟩, ⟨true, (some (.tab sc0 x14))⟩, ⟨true, (some (.tab sc0 x15))⟩], 5, [2, 4]⟩)] else noQ vals s
 | _, _ => noQ vals s
noncomputable def t24l0 (ih : Int → Nat → Nat → Int → Int → Nat → Nat → Nat → Nat → Nat → Nat → Int → Int → Nat → List (List Int) → List (List Int) → (Nat × List (List Int))) (x0 : Int) (x1 x2 : Nat) (x3 x4 : Int) (x5 x6 x7 x8 x9 x10 : Nat) (x11 x12 : Int) (x13 : Nat) (x14 x15 : List (List Int)) : Option (Fin' × List Value × St) :=
 (cond (decide ((x0 : Int) < ((x14.length : Nat) : Int)))
 (cond ((decide ((0 : Int) ≤ x0)) && (Nat.blt (Int.toNat x0) x14.length))
  (cond (Nat.beq ((r58 (Int.toNat x0) x14).1) 0)
   (cond (fgt .f32 ((r58 (Int.toNat x0) x14).2) 1015021568 || feq .f32 ((r58 (Int.toNat x0) x14).2) 1015021568)
    (cond (Nat.ble ((x15.length + 1) * 73) 140737488355328)
     (cond (Nat.beq ((ih (IntKind.i64.wrap (x0 + 1)) x1 x2 x3 x4 x5 x6 x7 x8 x9 x10 x11 x12 x13 x14 (((x15.drop 0).take x15.length) ++ ([[(((Int.toNat ((x14.getD (Int.toNat x0) []).getD 0 0)) : Nat) : Int), (((Int.toNat ((x14.getD (Int.toNat x0) []).getD 1 0)) : Nat) : Int), (((Int.toNat ((x14.getD (Int.toNat x0) []).getD 2 0)) : Nat) : Int), (((Int.toNat ((x14.getD (Int.toNat x0) []).getD 3 0)) : Nat) : Int), (((Int.toNat ((x14.getD (Int.toNat x0) []).getD 4 0)) : Nat) : Int), (((Int.toNat ((x14.getD (Int.toNat x0) []).getD 5 0)) : Nat) : Int), (((Int.toNat ((x14.getD (Int.toNat x0) []).getD 6 0)) : Nat) : Int), (((Int.toNat ((x14.getD (Int.toNat x0) []).getD 7 0)) : Nat) : Int), (((Int.toNat ((x14.getD (Int.toNat x0) []).getD 8 0)) : Nat) : Int), (((Int.toNat ((x14.getD (Int.toNat x0) []).getD 9 0)) : Nat) : Int), (((Int.toNat ((x14.getD (Int.toNat x0) []).getD 10 0)) : Nat) : Int), (((Int.toNat ((x14.getD (Int.toNat x0) []).getD 11 0)) : Nat) : Int), (((Int.toNat ((x14.getD (Int.toNat x0) []).getD 12 0)) : Nat) : Int), (((Int.toNat ((x14.getD (Int.toNat x0) []).getD 13 0)) : Nat) : Int), (((Int.toNat ((x14.getD (Int.toNat x0) []).getD 14 0)) : Nat) : Int), (((Int.toNat ((x14.getD (Int.toNat x0) []).getD 15 0)) : Nat) : Int), (((Int.toNat ((x14.getD (Int.toNat x0) []).getD 16 0)) : Nat) : Int), (((Int.toNat ((x14.getD (Int.toNat x0) []).getD 17 0)) : Nat) : Int)]] : List (List Int)))).1) 0)
      (some (.exit 0, frameOf 45 [1, 2, 5] [.pointer (some ⟨0, 0, some 0⟩), .pointer (some ⟨1, 0, some 0⟩), .pointer (some ⟨2, 0, some 0⟩)], ⟨[⟨true, (some (.cells [wsl 3, .float .f32 x1, .float .f32 x2, .int .i8 x3, .int .i64 x4, .float .f32 x5]))⟩, ⟨true, (some (.cells [.slice none 0 0, .float .f32 x6, .float .f32 x7, .int .i8 0, .int .i64 0, .float .f32 x8]))⟩, ⟨true, (some (.cells [wsl 5, .float .f32 x9, .float .f32 x10, .int .i8 x11, .int .i64 x12, .float .f32 x13]))⟩, ⟨true, (some (.tab sc0 x14))⟩, ⟨true, none⟩, ⟨true, (some (.tab sc0 ((ih (IntKind.i64.wrap (x0 + 1)) x1 x2 x3 x4 x5 x6 x7 x8 x9 x10 x11 x12 x13 x14 (((x15.drop 0).take x15.length) ++ ([[(((Int.toNat ((x14.getD (Int.toNat x0) []).getD 0 0)) : Nat) : Int), (((Int.toNat ((x14.getD (Int.toNat x0) []).getD 1 0)) : Nat) : Int), (((Int.toNat ((x14.getD (Int.toNat x0) []).getD 2 0)) : Nat) : Int), (((Int.toNat ((x14.getD (Int.toNat x0) []).getD 3 0)) : Nat) : Int), (((Int.toNat ((x14.getD (Int.toNat x0) []).getD 4 0)) : Nat) : Int), (((Int.toNat ((x14.getD (Int.toNat x0) []).getD 5 0)) : Nat) : Int), (((Int.toNat ((x14.getD (Int.toNat x0) []).getD 6 0)) : Nat) : Int), (((Int.toNat ((x14.getD (Int.toNat x0) []).getD 7 0)) : Nat) : Int), (((Int.toNat ((x14.getD (Int.toNat x0) []).getD 8 0)) : Nat) : Int), (((Int.toNat ((x14.getD (Int.toNat x0) []).getD 9 0)) : Nat) : Int), (((Int.toNat ((x14.getD (Int.toNat x0) []).getD 10 0)) : Nat) : Int), (((Int.toNat ((x14.getD (Int.toNat x0) []).getD 11 0)) : Nat) : Int), (((Int.toNat ((x14.getD (Int.toNat x0) []).getD 12 0)) : Nat) : Int), (((Int.toNat ((x14.getD (Int.toNat x0) []).getD 13 0)) : Nat) : Int), (((Int.toNat ((x14.getD (Int.toNat x0) []).getD 14 0)) : Nat) : Int), (((Int.toNat ((x14.getD (Int.toNat x0) []).getD 15 0)) : Nat) : Int), (((Int.toNat ((x14.getD (Int.toNat x0) []).getD 16 0)) : Nat) : Int), (((Int.toNat ((x14.getD (Int.toNat x0) []).getD 17 0)) : Nat) : Int)]] : List (List Int)))).2)))⟩], 5, [2, 4]⟩))
      (cond (Nat.beq ((ih (IntKind.i64.wrap (x0 + 1)) x1 x2 x3 x4 x5 x6 x7 x8 x9 x10 x11 x12 x13 x14 (((x15.drop 0).take x15.length) ++ ([[(((Int.toNat ((x14.getD (Int.toNat x0) []).getD 0 0)) : Nat) : Int), (((Int.toNat ((x14.getD (Int.toNat x0) []).getD 1 0)) : Nat) : Int), (((Int.toNat ((x14.getD (Int.toNat x0) []).getD 2 0)) : Nat) : Int), (((Int.toNat ((x14.getD (Int.toNat x0) []).getD 3 0)) : Nat) : Int), (((Int.toNat ((x14.getD (Int.toNat x0) []).getD 4 0)) : Nat) : Int), (((Int.toNat ((x14.getD (Int.toNat x0) []).getD 5 0)) : Nat) : Int), (((Int.toNat ((x14.getD (Int.toNat x0) []).getD 6 0)) : Nat) : Int), (((Int.toNat ((x14.getD (Int.toNat x0) []).getD 7 0)) : Nat) : Int), (((Int.toNat ((x14.getD (Int.toNat x0) []).getD 8 0)) : Nat) : Int), (((Int.toNat ((x14.getD (Int.toNat x0) []).getD 9 0)) : Nat) : Int), (((Int.toNat ((x14.getD (Int.toNat x0) []).getD 10 0)) : Nat) : Int), (((Int.toNat ((x14.getD (Int.toNat x0) []).getD 11 0)) : Nat) : Int), (((Int.toNat ((x14.getD (Int.toNat x0) []).getD 12 0)) : Nat) : Int), (((Int.toNat ((x14.getD (Int.toNat x0) []).getD 13 0)) : Nat) : Int), (((Int.toNat ((x14.getD (Int.toNat x0) []).getD 14 0)) : Nat) : Int), (((Int.toNat ((x14.getD (Int.toNat x0) []).getD 15 0)) : Nat) : Int), (((Int.toNat ((x14.getD (Int.toNat x0) []).getD 16 0)) : Nat) : Int), (((Int.toNat ((x14.getD (Int.toNat x0) []).getD 17 0)) : Nat) : Int)]] : List (List Int)))).1) 1)
       (some (.exit 0, frameOf 45 [1, 2, 5] [.pointer (some ⟨0, 0, some 0⟩), .pointer (some ⟨1, 0, some 0⟩), .pointer (some ⟨2, 0, some 0⟩)], ⟨[⟨true, (some (.cells [wsl 3, .float .f32 x1, .float .f32 x2, .int .i8 x3, .int .i64 x4, .float .f32 x5]))⟩, ⟨true, (some (.cells [.slice none 0 0, .float .f32 x6, .float .f32 x7, .int .i8 0, .int .i64 0, .float .f32 x8]))⟩, ⟨true, (some (.cells [wsl 5, .float .f32 x9, .float .f32 x10, .int .i8 x11, .int .i64 x12, .float .f32 x13]))⟩, ⟨true, (some (.tab sc0 x14))⟩, ⟨true, none⟩, ⟨true, (some (.tab sc0 (((x15.drop 0).take x15.length) ++ ([[(((Int.toNat ((x14.getD (Int.toNat x0) []).getD 0 0)) : Nat) : Int), (((Int.toNat ((x14.getD (Int.toNat x0) []).getD 1 0)) : Nat) : Int), (((Int.toNat ((x14.getD (Int.toNat x0) []).getD 2 0)) : Nat) : Int), (((Int.toNat ((x14.getD (Int.toNat x0) []).getD 3 0)) : Nat) : Int), (((Int.toNat ((x14.getD (Int.toNat x0) []).getD 4 0)) : Nat) : Int), (((Int.toNat ((x14.getD (Int.toNat x0) []).getD 5 0)) : Nat) : Int), (((Int.toNat ((x14.getD (Int.toNat x0) []).getD 6 0)) : Nat) : Int), (((Int.toNat ((x14.getD (Int.toNat x0) []).getD 7 0)) : Nat) : Int), (((Int.toNat ((x14.getD (Int.toNat x0) []).getD 8 0)) : Nat) : Int), (((Int.toNat ((x14.getD (Int.toNat x0) []).getD 9 0)) : Nat) : Int), (((Int.toNat ((x14.getD (Int.toNat x0) []).getD 10 0)) : Nat) : Int), (((Int.toNat ((x14.getD (Int.toNat x0) []).getD 11 0)) : Nat) : Int), (((Int.toNat ((x14.getD (Int.toNat x0) []).getD 12 0)) : Nat) : Int), (((Int.toNat ((x14.getD (Int.toNat x0) []).getD 13 0)) : Nat) : Int), (((Int.toNat ((x14.getD (Int.toNat x0) []).getD 14 0)) : Nat) : Int), (((Int.toNat ((x14.getD (Int.toNat x0) []).getD 15 0)) : Nat) : Int), (((Int.toNat ((x14.getD (Int.toNat x0) []).getD 16 0)) : Nat) : Int), (((Int.toNat ((x14.getD (Int.toNat x0) []).getD 17 0)) : Nat) : Int)]] : List (List Int)))))⟩], 5, [2, 4]⟩))
       none))
     none)
    (cond (Nat.beq ((ih (IntKind.i64.wrap (x0 + 1)) x1 x2 x3 x4 x5 x6 x7 x8 x9 x10 x11 x12 x13 x14 x15).1) 0)
     (some (.exit 0, frameOf 45 [1, 2, 5] [.pointer (some ⟨0, 0, some 0⟩), .pointer (some ⟨1, 0, some 0⟩), .pointer (some ⟨2, 0, some 0⟩)], ⟨[⟨true, (some (.cells [wsl 3, .float .f32 x1, .float .f32 x2, .int .i8 x3, .int .i64 x4, .float .f32 x5]))⟩, ⟨true, (some (.cells [.slice none 0 0, .float .f32 x6, .float .f32 x7, .int .i8 0, .int .i64 0, .float .f32 x8]))⟩, ⟨true, (some (.cells [wsl 5, .float .f32 x9, .float .f32 x10, .int .i8 x11, .int .i64 x12, .float .f32 x13]))⟩, ⟨true, (some (.tab sc0 x14))⟩, ⟨true, none⟩, ⟨true, (some (.tab sc0 ((ih (IntKind.i64.wrap (x0 + 1)) x1 x2 x3 x4 x5 x6 x7 x8 x9 x10 x11 x12 x13 x14 x15).2)))⟩], 5, [2, 4]⟩))
     (cond (Nat.beq ((ih (IntKind.i64.wrap (x0 + 1)) x1 x2 x3 x4 x5 x6 x7 x8 x9 x10 x11 x12 x13 x14 x15).1) 1)
      (some (.exit 0, frameOf 45 [1, 2, 5] [.pointer (some ⟨0, 0, some 0⟩), .pointer (some ⟨1, 0, some 0⟩), .pointer (some ⟨2, 0, some 0⟩)], ⟨[⟨true, (some (.cells [wsl 3, .float .f32 x1, .float .f32 x2, .int .i8 x3, .int .i64 x4, .float .f32 x5]))⟩, ⟨true, (some (.cells [.slice none 0 0, .float .f32 x6, .float .f32 x7, .int .i8 0, .int .i64 0, .float .f32 x8]))⟩, ⟨true, (some (.cells [wsl 4, .float .f32 x9, .float .f32 x10, .int .i8 x11, .int .i64 x12, .float .f32 x13]))⟩, ⟨true, (some (.tab sc0 x14))⟩, ⟨true, (some (.tab sc0 x15))⟩], 5, [2, 4]⟩))
      none)))
   none)
  none)
 (some (.exit 0, frameOf 45 [1, 2, 5] [.pointer (some ⟨0, 0, some 0⟩), .pointer (some ⟨1, 0, some 0⟩), .pointer (some ⟨2, 0, some 0⟩)], ⟨[⟨true, (some (.cells [wsl 3, .float .f32 x1, .float .f32 x2, .int .i8 x3, .int .i64 x4, .float .f32 x5]))⟩, ⟨true, (some (.cells [.slice none 0 0, .float .f32 x6, .float .f32 x7, .int .i8 0, .int .i64 0, .float .f32 x8]))⟩, ⟨true, (some (.cells [wsl 4, .float .f32 x9, .float .f32 x10, .int .i8 x11, .int .i64 x12, .float .f32 x13]))⟩, ⟨true, (some (.tab sc0 x14))⟩, ⟨true, (some (.tab sc0 x15))⟩], 5, [2, 4]⟩)))
noncomputable def w24l0 (ih : Int → Nat → Nat → Int → Int → Nat → Nat → Nat → Nat → Nat → Nat → Int → Int → Nat → List (List Int) → List (List Int) → (Nat × List (List Int))) (x0 : Int) (x1 x2 : Nat) (x3 x4 : Int) (x5 x6 x7 x8 x9 x10 : Nat) (x11 x12 : Int) (x13 : Nat) (x14 x15 : List (List Int)) : Option (Fin' × List Value × St) :=
 (cond (decide ((x0 : Int) < ((x14.length : Nat) : Int)))
 (cond ((decide ((0 : Int) ≤ x0)) && (Nat.blt (Int.toNat x0) x14.length))
  (cond (Nat.beq ((r58 (Int.toNat x0) x14).1) 0)
   (cond (fgt .f32 ((r58 (Int.toNat x0) x14).2) 1015021568 || feq .f32 ((r58 (Int.toNat x0) x14).2) 1015021568)
    (cond ((decide ((0 : Int) ≤ x0)) && (Nat.blt (Int.toNat x0) x14.length))
     (cond (Nat.blt (Int.toNat x0) x14.length)
      (cond (Nat.ble ((x15.length + 1) * 73) 140737488355328)
       (cond (Nat.beq ((ih (IntKind.i64.wrap (x0 + 1)) x1 x2 x3 x4 x5 x6 x7 x8 x9 x10 x11 x12 x13 x14 (((x15.drop 0).take x15.length) ++ ([[(((Int.toNat ((x14.getD (Int.toNat x0) []).getD 0 0)) : Nat) : Int), (((Int.toNat ((x14.getD (Int.toNat x0) []).getD 1 0)) : Nat) : Int), (((Int.toNat ((x14.getD (Int.toNat x0) []).getD 2 0)) : Nat) : Int), (((Int.toNat ((x14.getD (Int.toNat x0) []).getD 3 0)) : Nat) : Int), (((Int.toNat ((x14.getD (Int.toNat x0) []).getD 4 0)) : Nat) : Int), (((Int.toNat ((x14.getD (Int.toNat x0) []).getD 5 0)) : Nat) : Int), (((Int.toNat ((x14.getD (Int.toNat x0) []).getD 6 0)) : Nat) : Int), (((Int.toNat ((x14.getD (Int.toNat x0) []).getD 7 0)) : Nat) : Int), (((Int.toNat ((x14.getD (Int.toNat x0) []).getD 8 0)) : Nat) : Int), (((Int.toNat ((x14.getD (Int.toNat x0) []).getD 9 0)) : Nat) : Int), (((Int.toNat ((x14.getD (Int.toNat x0) []).getD 10 0)) : Nat) : Int), (((Int.toNat ((x14.getD (Int.toNat x0) []).getD 11 0)) : Nat) : Int), (((Int.toNat ((x14.getD (Int.toNat x0) []).getD 12 0)) : Nat) : Int), (((Int.toNat ((x14.getD (Int.toNat x0) []).getD 13 0)) : Nat) : Int), (((Int.toNat ((x14.getD (Int.toNat x0) []).getD 14 0)) : Nat) : Int), (((Int.toNat ((x14.getD (Int.toNat x0) []).getD 15 0)) : Nat) : Int), (((Int.toNat ((x14.getD (Int.toNat x0) []).getD 16 0)) : Nat) : Int), (((Int.toNat ((x14.getD (Int.toNat x0) []).getD 17 0)) : Nat) : Int)]] : List (List Int)))).1) 0)
        (some (.exit 0, frameOf 45 [1, 2, 5] [.pointer (some ⟨0, 0, some 0⟩), .pointer (some ⟨1, 0, some 0⟩), .pointer (some ⟨2, 0, some 0⟩)], ⟨[⟨true, (some (.cells [wsl 3, .float .f32 x1, .float .f32 x2, .int .i8 x3, .int .i64 x4, .float .f32 x5]))⟩, ⟨true, (some (.cells [.slice none 0 0, .float .f32 x6, .float .f32 x7, .int .i8 0, .int .i64 0, .float .f32 x8]))⟩, ⟨true, (some (.cells [wsl 5, .float .f32 x9, .float .f32 x10, .int .i8 x11, .int .i64 x12, .float .f32 x13]))⟩, ⟨true, (some (.tab sc0 x14))⟩, ⟨true, none⟩, ⟨true, (some (.tab sc0 ((ih (IntKind.i64.wrap (x0 + 1)) x1 x2 x3 x4 x5 x6 x7 x8 x9 x10 x11 x12 x13 x14 (((x15.drop 0).take x15.length) ++ ([[(((Int.toNat ((x14.getD (Int.toNat x0) []).getD 0 0)) : Nat) : Int), (((Int.toNat ((x14.getD (Int.toNat x0) []).getD 1 0)) : Nat) : Int), (((Int.toNat ((x14.getD (Int.toNat x0) []).getD 2 0)) : Nat) : Int), (((Int.toNat ((x14.getD (Int.toNat x0) []).getD 3 0)) : Nat) : Int), (((Int.toNat ((x14.getD (Int.toNat x0) []).getD 4 0)) : Nat) : Int), (((Int.toNat ((x14.getD (Int.toNat x0) []).getD 5 0)) : Nat) : Int), (((Int.toNat ((x14.getD (Int.toNat x0) []).getD 6 0)) : Nat) : Int), (((Int.toNat ((x14.getD (Int.toNat x0) []).getD 7 0)) : Nat) : Int), (((Int.toNat ((x14.getD (Int.toNat x0) []).getD 8 0)) : Nat) : Int), (((Int.toNat ((x14.getD (Int.toNat x0) []).getD 9 0)) : Nat) : Int), (((Int.toNat ((x14.getD (Int.toNat x0) []).getD 10 0)) : Nat) : Int), (((Int.toNat ((x14.getD (Int.toNat x0) []).getD 11 0)) : Nat) : Int), (((Int.toNat ((x14.getD (Int.toNat x0) []).getD 12 0)) : Nat) : Int), (((Int.toNat ((x14.getD (Int.toNat x0) []).getD 13 0)) : Nat) : Int), (((Int.toNat ((x14.getD (Int.toNat x0) []).getD 14 0)) : Nat) : Int), (((Int.toNat ((x14.getD (Int.toNat x0) []).getD 15 0)) : Nat) : Int), (((Int.toNat ((x14.getD (Int.toNat x0) []).getD 16 0)) : Nat) : Int), (((Int.toNat ((x14.getD (Int.toNat x0) []).getD 17 0)) : Nat) : Int)]] : List (List Int)))).2)))⟩], 5, [2, 4]⟩))
        (cond (Nat.beq ((ih (IntKind.i64.wrap (x0 + 1)) x1 x2 x3 x4 x5 x6 x7 x8 x9 x10 x11 x12 x13 x14 (((x15.drop 0).take x15.length) ++ ([[(((Int.toNat ((x14.getD (Int.toNat x0) []).getD 0 0)) : Nat) : Int), (((Int.toNat ((x14.getD (Int.toNat x0) []).getD 1 0)) : Nat) : Int), (((Int.toNat ((x14.getD (Int.toNat x0) []).getD 2 0)) : Nat) : Int), (((Int.toNat ((x14.getD (Int.toNat x0) []).getD 3 0)) : Nat) : Int), (((Int.toNat ((x14.getD (Int.toNat x0) []).getD 4 0)) : Nat) : Int), (((Int.toNat ((x14.getD (Int.toNat x0) []).getD 5 0)) : Nat) : Int), (((Int.toNat ((x14.getD (Int.toNat x0) []).getD 6 0)) : Nat) : Int), (((Int.toNat ((x14.getD (Int.toNat x0) []).getD 7 0)) : Nat) : Int), (((Int.toNat ((x14.getD (Int.toNat x0) []).getD 8 0)) : Nat) : Int), (((Int.toNat ((x14.getD (Int.toNat x0) []).getD 9 0)) : Nat) : Int), (((Int.toNat ((x14.getD (Int.toNat x0) []).getD 10 0)) : Nat) : Int), (((Int.toNat ((x14.getD (Int.toNat x0) []).getD 11 0)) : Nat) : Int), (((Int.toNat ((x14.getD (Int.toNat x0) []).getD 12 0)) : Nat) : Int), (((Int.toNat ((x14.getD (Int.toNat x0) []).getD 13 0)) : Nat) : Int), (((Int.toNat ((x14.getD (Int.toNat x0) []).getD 14 0)) : Nat) : Int), (((Int.toNat ((x14.getD (Int.toNat x0) []).getD 15 0)) : Nat) : Int), (((Int.toNat ((x14.getD (Int.toNat x0) []).getD 16 0)) : Nat) : Int), (((Int.toNat ((x14.getD (Int.toNat x0) []).getD 17 0)) : Nat) : Int)]] : List (List Int)))).1) 1)
         (some (.exit 0, frameOf 45 [1, 2, 5] [.pointer (some ⟨0, 0, some 0⟩), .pointer (some ⟨1, 0, some 0⟩), .pointer (some ⟨2, 0, some 0⟩)], ⟨[⟨true, (some (.cells [wsl 3, .float .f32 x1, .float .f32 x2, .int .i8 x3, .int .i64 x4, .float .f32 x5]))⟩, ⟨true, (some (.cells [.slice none 0 0, .float .f32 x6, .float .f32 x7, .int .i8 0, .int .i64 0, .float .f32 x8]))⟩, ⟨true, (some (.cells [wsl 5, .float .f32 x9, .float .f32 x10, .int .i8 x11, .int .i64 x12, .float .f32 x13]))⟩, ⟨true, (some (.tab sc0 x14))⟩, ⟨true, none⟩, ⟨true, (some (.tab sc0 (((x15.drop 0).take x15.length) ++ ([[(((Int.toNat ((x14.getD (Int.toNat x0) []).getD 0 0)) : Nat) : Int), (((Int.toNat ((x14.getD (Int.toNat x0) []).getD 1 0)) : Nat) : Int), (((Int.toNat ((x14.getD (Int.toNat x0) []).getD 2 0)) : Nat) : Int), (((Int.toNat ((x14.getD (Int.toNat x0) []).getD 3 0)) : Nat) : Int), (((Int.toNat ((x14.getD (Int.toNat x0) []).getD 4 0)) : Nat) : Int), (((Int.toNat ((x14.getD (Int.toNat x0) []).getD 5 0)) : Nat) : Int), (((Int.toNat ((x14.getD (Int.toNat x0) []).getD 6 0)) : Nat) : Int), (((Int.toNat ((x14.getD (Int.toNat x0) []).getD 7 0)) : Nat) : Int), (((Int.toNat ((x14.getD (Int.toNat x0) []).getD 8 0)) : Nat) : Int), (((Int.toNat ((x14.getD (Int.toNat x0) []).getD 9 0)) : Nat) : Int), (((Int.toNat ((x14.getD (Int.toNat x0) []).getD 10 0)) : Nat) : Int), (((Int.toNat ((x14.getD (Int.toNat x0) []).getD 11 0)) : Nat) : Int), (((Int.toNat ((x14.getD (Int.toNat x0) []).getD 12 0)) : Nat) : Int), (((Int.toNat ((x14.getD (Int.toNat x0) []).getD 13 0)) : Nat) : Int), (((Int.toNat ((x14.getD (Int.toNat x0) []).getD 14 0)) : Nat) : Int), (((Int.toNat ((x14.getD (Int.toNat x0) []).getD 15 0)) : Nat) : Int), (((Int.toNat ((x14.getD (Int.toNat x0) []).getD 16 0)) : Nat) : Int), (((Int.toNat ((x14.getD (Int.toNat x0) []).getD 17 0)) : Nat) : Int)]] : List (List Int)))))⟩], 5, [2, 4]⟩))
         none))
       none)
      none)
     none)
    (cond (Nat.beq ((ih (IntKind.i64.wrap (x0 + 1)) x1 x2 x3 x4 x5 x6 x7 x8 x9 x10 x11 x12 x13 x14 x15).1) 0)
     (some (.exit 0, frameOf 45 [1, 2, 5] [.pointer (some ⟨0, 0, some 0⟩), .pointer (some ⟨1, 0, some 0⟩), .pointer (some ⟨2, 0, some 0⟩)], ⟨[⟨true, (some (.cells [wsl 3, .float .f32 x1, .float .f32 x2, .int .i8 x3, .int .i64 x4, .float .f32 x5]))⟩, ⟨true, (some (.cells [.slice none 0 0, .float .f32 x6, .float .f32 x7, .int .i8 0, .int .i64 0, .float .f32 x8]))⟩, ⟨true, (some (.cells [wsl 5, .float .f32 x9, .float .f32 x10, .int .i8 x11, .int .i64 x12, .float .f32 x13]))⟩, ⟨true, (some (.tab sc0 x14))⟩, ⟨true, none⟩, ⟨true, (some (.tab sc0 ((ih (IntKind.i64.wrap (x0 + 1)) x1 x2 x3 x4 x5 x6 x7 x8 x9 x10 x11 x12 x13 x14 x15).2)))⟩], 5, [2, 4]⟩))
     (cond (Nat.beq ((ih (IntKind.i64.wrap (x0 + 1)) x1 x2 x3 x4 x5 x6 x7 x8 x9 x10 x11 x12 x13 x14 x15).1) 1)
      (some (.exit 0, frameOf 45 [1, 2, 5] [.pointer (some ⟨0, 0, some 0⟩), .pointer (some ⟨1, 0, some 0⟩), .pointer (some ⟨2, 0, some 0⟩)], ⟨[⟨true, (some (.cells [wsl 3, .float .f32 x1, .float .f32 x2, .int .i8 x3, .int .i64 x4, .float .f32 x5]))⟩, ⟨true, (some (.cells [.slice none 0 0, .float .f32 x6, .float .f32 x7, .int .i8 0, .int .i64 0, .float .f32 x8]))⟩, ⟨true, (some (.cells [wsl 4, .float .f32 x9, .float .f32 x10, .int .i8 x11, .int .i64 x12, .float .f32 x13]))⟩, ⟨true, (some (.tab sc0 x14))⟩, ⟨true, (some (.tab sc0 x15))⟩], 5, [2, 4]⟩))
      none)))
   none)
  none)
 (some (.exit 0, frameOf 45 [1, 2, 5] [.pointer (some ⟨0, 0, some 0⟩), .pointer (some ⟨1, 0, some 0⟩), .pointer (some ⟨2, 0, some 0⟩)], ⟨[⟨true, (some (.cells [wsl 3, .float .f32 x1, .float .f32 x2, .int .i8 x3, .int .i64 x4, .float .f32 x5]))⟩, ⟨true, (some (.cells [.slice none 0 0, .float .f32 x6, .float .f32 x7, .int .i8 0, .int .i64 0, .float .f32 x8]))⟩, ⟨true, (some (.cells [wsl 4, .float .f32 x9, .float .f32 x10, .int .i8 x11, .int .i64 x12, .float .f32 x13]))⟩, ⟨true, (some (.tab sc0 x14))⟩, ⟨true, (some (.tab sc0 x15))⟩], 5, [2, 4]⟩)))
set_option maxRecDepth 100000 in
set_option maxHeartbeats 4000000 in
theorem e24l0 (m : Nat) (x0 : Int) (x1 x2 : Nat) (x3 x4 : Int) (x5 x6 x7 x8 x9 x10 : Nat) (x11 x12 : Int) (x13 : Nat) (x14 x15 : List (List Int)) : evC Try.prog ext T14 noL 200 (loopN Try.f24 0) (loopTail [1, 2, 5, 6] [1, 2, 5] [2, 4] (sumK 45 [1, 2, 5, 6] [1, 2, 5] (q24l0 m))) (frameOf 45 [1, 2, 5, 6] [.pointer (some ⟨0, 0, some 0⟩), .pointer (some ⟨1, 0, some 0⟩), .pointer (some ⟨2, 0, some 0⟩), .int .i64 x0]) ⟨[⟨true, (some (.cells [wsl 3, .float .f32 x1, .float .f32 x2, .int .i8 x3, .int .i64 x4, .float .f32 x5]))⟩, ⟨true, (some (.cells [.slice none 0 0, .float .f32 x6, .float .f32 x7, .int .i8 0, .int .i64 0, .float .f32 x8]))⟩, ⟨true, (some (.cells [wsl 4, .float .f32 x9, .float .f32 x10, .int .i8 x11, .int .i64 x12, .float .f32 x13]))⟩, ⟨true, (some (.tab sc0 x14))⟩, ⟨true, (some (.tab sc0 x15))⟩], 5, []⟩ = firstT ([((Nat.beq ((r24l0 (m + 1) x0 x1 x2 x3 x4 x5 x6 x7 x8 x9 x10 x11 x12 x13 x14 x15).1) 0), .exit 0, [.pointer (some ⟨0, 0, some 0⟩), .pointer (some ⟨1, 0, some 0⟩), .pointer (some ⟨2, 0, some 0⟩)], ⟨[⟨true, (some (.cells [wsl 3, .float .f32 x1, .float .f32 x2, .int .i8 x3, .int .i64 x4, .float .f32 x5]))⟩, ⟨true, (some (.cells [.slice none 0 0, .float .f32 x6, .float .f32 x7, .int .i8 0, .int .i64 0, .float .f32 x8]))⟩, ⟨true, (some (.cells [wsl 5, .float .f32 x9, .float .f32 x10, .int .i8 x11, .int .i64 x12, .float .f32 x13]))⟩, ⟨true, (some (.tab sc0 x14))⟩, ⟨true, none⟩, ⟨true, (some (.tab sc0 ((r24l0 (m + 1) x0 x1 x2 x3 x4 x5 x6 x7 x8 x9 x10 x11 x12 x13 x14 x15).2)))⟩], 5, [2, 4]⟩), ((Nat.beq ((r24l0 (m + 1) x0 x1 x2 x3 x4 x5 x6 x7 x8 x9 x10 x11 x12 x13 x14 x15).1) 1), .exit 0, [.pointer (some ⟨0, 0, some 0⟩), .pointer (some ⟨1, 0, some 0⟩), .pointer (some ⟨2, 0, some 0⟩)], ⟨[⟨true, (some (.cells [wsl 3, .float .f32 x1, .float .f32 x2, .int .i8 x3, .int .i64 x4, .float .f32 x5]))⟩, ⟨true, (some (.cells [.slice none 0 0, .float .f32 x6, .float .f32 x7, .int .i8 0, .int .i64 0, .float .f32 x8]))⟩, ⟨true, (some (.cells [wsl 4, .float .f32 x9, .float .f32 x10, .int .i8 x11, .int .i64 x12, .float .f32 x13]))⟩, ⟨true, (some (.tab sc0 x14))⟩, ⟨true, (some (.tab sc0 x15))⟩], 5, [2, 4]⟩)].map fun (b, x) => (b, (x.1, frameOf 45 [1, 2, 5] x.2.1, x.2.2))) :=
 (show evC Try.prog ext T14 noL 200 (loopN Try.f24 0) (loopTail [1, 2, 5, 6] [1, 2, 5] [2, 4] (sumK 45 [1, 2, 5, 6] [1, 2, 5] (q24l0 m))) (frameOf 45 [1, 2, 5, 6] [.pointer (some ⟨0, 0, some 0⟩), .pointer (some ⟨1, 0, some 0⟩), .pointer (some ⟨2, 0, some 0⟩), .int .i64 x0]) ⟨[⟨true, (some (.cells [wsl 3, .float .f32 x1, .float .f32 x2, .int .i8 x3, .int .i64 x4, .float .f32 x5]))⟩, ⟨true, (some (.cells [.slice none 0 0, .float .f32 x6, .float .f32 x7, .int .i8 0, .int .i64 0, .float .f32 x8]))⟩, ⟨true, (some (.cells [wsl 4, .float .f32 x9, .float .f32 x10, .int .i8 x11, .int .i64 x12, .float .f32 x13]))⟩, ⟨true, (some (.tab sc0 x14))⟩, ⟨true, (some (.tab sc0 x15))⟩], 5, []⟩ = w24l0 (r24l0 m) x0 x1 x2 x3 x4 x5 x6 x7 x8 x9 x10 x11 x12 x13 x14 x15 from by kernel_rfl).trans
 ((show w24l0 (r24l0 m) x0 x1 x2 x3 x4 x5 x6 x7 x8 x9 x10 x11 x12 x13 x14 x15 = t24l0 (r24l0 m) x0 x1 x2 x3 x4 x5 x6 x7 x8 x9 x10 x11 x12 x13 x14 x15 from (cond_cong _ (fun h0 => (cond_cong _ (fun h1 => (cond_cong _ (fun h2 => (cond_cong _ (fun h3 => (cond_t h1 (cond_t (ev_and2 h1) rfl))) (fun h3 => rfl))) (fun h2 => rfl))) (fun h1 => rfl))) (fun h0 => rfl))).trans
 (show t24l0 (r24l0 m) x0 x1 x2 x3 x4 x5 x6 x7 x8 x9 x10 x11 x12 x13 x14 x15 = a24l0 x0 x1 x2 x3 x4 x5 x6 x7 x8 x9 x10 x11 x12 x13 x14 x15 (r24l0 (m + 1) x0 x1 x2 x3 x4 x5 x6 x7 x8 x9 x10 x11 x12 x13 x14 x15) from (cond_app (a24l0 x0 x1 x2 x3 x4 x5 x6 x7 x8 x9 x10 x11 x12 x13 x14 x15) _ (cond_app (a24l0 x0 x1 x2 x3 x4 x5 x6 x7 x8 x9 x10 x11 x12 x13 x14 x15) _ (cond_app (a24l0 x0 x1 x2 x3 x4 x5 x6 x7 x8 x9 x10 x11 x12 x13 x14 x15) _ (cond_app (a24l0 x0 x1 x2 x3 x4 x5 x6 x7 x8 x9 x10 x11 x12 x13 x14 x15) _ (cond_app (a24l0 x0 x1 x2 x3 x4 x5 x6 x7 x8 x9 x10 x11 x12 x13 x14 x15) _ (cond_app (a24l0 x0 x1 x2 x3 x4 x5 x6 x7 x8 x9 x10 x11 x12 x13 x14 x15) _ rfl (cond_app (a24l0 x0 x1 x2 x3 x4 x5 x6 x7 x8 x9 x10 x11 x12 x13 x14 x15) _ rfl rfl)) rfl) (v24l0 x0 x1 x2 x3 x4 x5 x6 x7 x8 x9 x10 x11 x12 x13 x14 x15 ((r24l0 m) (IntKind.i64.wrap (x0 + 1)) x1 x2 x3 x4 x5 x6 x7 x8 x9 x10 x11 x12 x13 x14 x15))) rfl) rfl) rfl)))
set_option maxRecDepth 100000 in
set_option maxHeartbeats 4000000 in
theorem qm24l0 : ∀ m, SumKOk Try.prog (loopN Try.f24 0) 45 [1, 2, 5, 6] [1, 2, 5] (q24l0 m) := by
  intro m
  induction m with
  | zero =>
    intro vals s x h1 h2 h3
    unfold q24l0 at h3; split at h3
    · rename_i h; split at h3
      · rename_i hc; obtain ⟨rfl, rfl, rfl, rfl, rfl, rfl, rfl, rfl, rfl, rfl, rfl, rfl, rfl, rfl, rfl⟩ := hc; exact absurd h3 (by simp [r24l0, firstT, Nat.beq])
      · exact noQ_ok _ _ _ h1 h2 h3
    · exact noQ_ok _ _ _ h1 h2 h3
  | succ m ih =>
    intro vals s x h1 h2 h3
    unfold q24l0 at h3; split at h3
    · rename_i h; split at h3
      · rename_i hc; obtain ⟨rfl, rfl, rfl, rfl, rfl, rfl, rfl, rfl, rfl, rfl, rfl, rfl, rfl, rfl, rfl⟩ := hc; exact sum_step ok14 extOk mixed ((lfOkF_no _ _).inner (by kernel_rfl)) ih h1 h2 h (e24l0 m _ _ _ _ _ _ _ _ _ _ _ _ _ _ _ _) rfl h3
      · exact noQ_ok _ _ _ h1 h2 h3
    · exact noQ_ok _ _ _ h1 h2 h3
noncomputable def Q24l0 : SumK := fun vals s => q24l0 (fuelOf vals s.h) vals s
theorem qok24l0 : SumKOk Try.prog (loopN Try.f24 0) 45 [1, 2, 5, 6] [1, 2, 5] Q24l0 := fuel_ok qm24l0 fuelOf
noncomputable def L24_1 : LoopT := addL noL 7 [1, 2, 5, 6] (sumK 45 [1, 2, 5, 6] [1, 2, 5] Q24l0)
theorem lok24_1 : LfOkF Try.prog L24_1 Try.f24 := lfOkF_add (lfOkF_no _ _) qok24l0 (by kernel_rfl) (by kernel_rfl) (by kernel_rfl)

/-- spec.DropSpent -/
noncomputable def r24 (x0 x1 : Nat) (x2 x3 : Int) (x4 : Nat) (x5 : List (List Int)) : Nat × Int × List (List Int) :=
 cond (Nat.beq ((r62 x0 x1 x2 x3 x4 x5).1) 0)
  (cond (!((r62 x0 x1 x2 x3 x4 x5).2))
   (0, 0, [])
   (cond (Nat.beq ((r67 x0 x1 x2 x3 x4 x5).1) 0)
    (cond (Nat.beq ((r24l0 (1000 + 0 + x5.length) 0 x0 x1 x2 x3 x4 0 0 0 x0 x1 x2 x3 x4 x5 ([] : List (List Int))).1) 0)
     (1, (IntKind.i64.wrap (((x5.length : Nat) : Int) - ((((r24l0 (1000 + 0 + x5.length) 0 x0 x1 x2 x3 x4 0 0 0 x0 x1 x2 x3 x4 x5 ([] : List (List Int))).2).length : Nat) : Int))), ((r24l0 (1000 + 0 + x5.length) 0 x0 x1 x2 x3 x4 0 0 0 x0 x1 x2 x3 x4 x5 ([] : List (List Int))).2))
     (cond (Nat.beq ((r24l0 (1000 + 0 + x5.length) 0 x0 x1 x2 x3 x4 0 0 0 x0 x1 x2 x3 x4 x5 ([] : List (List Int))).1) 1)
      (1, (IntKind.i64.wrap (((x5.length : Nat) : Int) - 0)), ([] : List (List Int)))
      (2, 0, [])))
    (2, 0, [])))
  (2, 0, [])
noncomputable def a24 (x0 x1 : Nat) (x2 x3 : Int) (x4 : Nat) (x5 : List (List Int)) (p : Nat × Int × List (List Int)) : Res := firstT [((Nat.beq (p.1) 0), .tuple #[.agg #[.slice none 0 0, .float .f32 0, .float .f32 0, .int .i8 0, .int .i64 0, .float .f32 0], .int .i64 0, .int .i64 1], ⟨[⟨true, (some (.tab sc0 x5))⟩], 1, []⟩), ((Nat.beq (p.1) 1), .tuple #[.agg #[wsl 1, .float .f32 x0, .float .f32 x1, .int .i8 x2, .int .i64 x3, .float .f32 x4], .int .i64 (p.2.1), .int .i64 0], ⟨[⟨true, (some (.tab sc0 x5))⟩, ⟨true, (some (.tab sc0 (p.2.2)))⟩], 1, []⟩)]
noncomputable def t24 (x0 x1 : Nat) (x2 x3 : Int) (x4 : Nat) (x5 : List (List Int)) : Res :=
 (cond (Nat.beq ((r62 x0 x1 x2 x3 x4 x5).1) 0)
 (cond (!((r62 x0 x1 x2 x3 x4 x5).2))
  (some (.tuple #[.agg #[.slice none 0 0, .float .f32 0, .float .f32 0, .int .i8 0, .int .i64 0, .float .f32 0], .int .i64 0, .int .i64 1], ⟨[⟨true, (some (.tab sc0 x5))⟩], 1, []⟩))
  (cond (Nat.beq ((r67 x0 x1 x2 x3 x4 x5).1) 0)
   (cond (Nat.beq ((r24l0 (1000 + 0 + x5.length) 0 x0 x1 x2 x3 x4 0 0 0 x0 x1 x2 x3 x4 x5 ([] : List (List Int))).1) 0)
    (some (.tuple #[.agg #[wsl 1, .float .f32 x0, .float .f32 x1, .int .i8 x2, .int .i64 x3, .float .f32 x4], .int .i64 (IntKind.i64.wrap (((x5.length : Nat) : Int) - ((((r24l0 (1000 + 0 + x5.length) 0 x0 x1 x2 x3 x4 0 0 0 x0 x1 x2 x3 x4 x5 ([] : List (List Int))).2).length : Nat) : Int))), .int .i64 0], ⟨[⟨true, (some (.tab sc0 x5))⟩, ⟨true, (some (.tab sc0 ((r24l0 (1000 + 0 + x5.length) 0 x0 x1 x2 x3 x4 0 0 0 x0 x1 x2 x3 x4 x5 ([] : List (List Int))).2)))⟩], 1, []⟩))
    (cond (Nat.beq ((r24l0 (1000 + 0 + x5.length) 0 x0 x1 x2 x3 x4 0 0 0 x0 x1 x2 x3 x4 x5 ([] : List (List Int))).1) 1)
     (some (.tuple #[.agg #[wsl 1, .float .f32 x0, .float .f32 x1, .int .i8 x2, .int .i64 x3, .float .f32 x4], .int .i64 (IntKind.i64.wrap (((x5.length : Nat) : Int) - 0)), .int .i64 0], ⟨[⟨true, (some (.tab sc0 x5))⟩, ⟨true, (some (.tab sc0 ([] : List (List Int))))⟩], 1, []⟩))
     none))
   none))
 none)
set_option maxRecDepth 100000 in
set_option maxHeartbeats 4000000 in
theorem e24 (x0 x1 : Nat) (x2 x3 : Int) (x4 : Nat) (x5 : List (List Int)) : evFn Try.prog ext T14 L24_1 200 Try.f24 [.agg #[wsl 0, .float .f32 x0, .float .f32 x1, .int .i8 x2, .int .i64 x3, .float .f32 x4]] ⟨[⟨true, (some (.tab sc0 x5))⟩], 1, []⟩ = firstT [((Nat.beq ((r24 x0 x1 x2 x3 x4 x5).1) 0), .tuple #[.agg #[.slice none 0 0, .float .f32 0, .float .f32 0, .int .i8 0, .int .i64 0, .float .f32 0], .int .i64 0, .int .i64 1], ⟨[⟨true, (some (.tab sc0 x5))⟩], 1, []⟩), ((Nat.beq ((r24 x0 x1 x2 x3 x4 x5).1) 1), .tuple #[.agg #[wsl 1, .float .f32 x0, .float .f32 x1, .int .i8 x2, .int .i64 x3, .float .f32 x4], .int .i64 ((r24 x0 x1 x2 x3 x4 x5).2.1), .int .i64 0], ⟨[⟨true, (some (.tab sc0 x5))⟩, ⟨true, (some (.tab sc0 ((r24 x0 x1 x2 x3 x4 x5).2.2)))⟩], 1, []⟩)] :=
 (show evFn Try.prog ext T14 L24_1 200 Try.f24 [.agg #[wsl 0, .float .f32 x0, .float .f32 x1, .int .i8 x2, .int .i64 x3, .float .f32 x4]] ⟨[⟨true, (some (.tab sc0 x5))⟩], 1, []⟩ = t24 x0 x1 x2 x3 x4 x5 from by kernel_rfl).trans
 (show t24 x0 x1 x2 x3 x4 x5 = a24 x0 x1 x2 x3 x4 x5 (r24 x0 x1 x2 x3 x4 x5) from (cond_app (a24 x0 x1 x2 x3 x4 x5) _ (cond_app (a24 x0 x1 x2 x3 x4 x5) _ rfl (cond_app (a24 x0 x1 x2 x3 x4 x5) _ (cond_app (a24 x0 x1 x2 x3 x4 x5) _ rfl (cond_app (a24 x0 x1 x2 x3 x4 x5) _ rfl rfl)) rfl)) rfl))
noncomputable def s24 (args : List Value) (s : St) : List (Bool × Value × St) :=
 match args, s.h with
 | [.agg ⟨[.iface f0 .nilIface, .float .f32 x0, .float .f32 x1, .int .i8 x2, .int .i64 x3, .float .f32 x4]⟩], [⟨true, some (.tab [.fl .f32, .fl .f32, .fl .f32, .fl .f32, .fl .f32, .fl .f32, .fl .f32, .fl .f32, .fl .f32, .fl .f32, .fl .f32, .fl .f32, .fl .f32, .fl .f32, .fl .f32, .fl .f32, .fl .f32, .fl .f32] x5)⟩] => if f0 = 0 then [((Nat.beq ((r24 x0 x1 x2 x3 x4 x5).1) 0), .tuple #[.agg #[.slice none 0 0, .float .f32 0, .float .f32 0, .int .i8 0, .int .i64 0, .float .f32 0], .int .i64 0, .int .i64 1], ⟨[⟨true, (some (.tab sc0 x5))⟩], 1, []⟩), ((Nat.beq ((r24 x0 x1 x2 x3 x4 x5).1) 1), .tuple #[.agg #[wsl 1, .float .f32 x0, .float .f32 x1, .int .i8 x2, .int .i64 x3, .float .f32 x4], .int .i64 ((r24 x0 x1 x2 x3 x4 x5).2.1), .int .i64 0], ⟨[⟨true, (some (.tab sc0 x5))⟩, ⟨true, (some (.tab sc0 ((r24 x0 x1 x2 x3 x4 x5).2.2)))⟩], 1, []⟩)] else T14 24 args s
 | _, _ => T14 24 args s
noncomputable def T15 : CallF := addF T14 24 s24
set_option maxRecDepth 100000 in
set_option maxHeartbeats 4000000 in
theorem ok15 : CfOk Try.prog T15 := by
  refine cfOk_add ok14 fun args s r s' h1 h2 h3 => ?_
  unfold s24 at h3; split at h3
  · rename_i h; split at h3
    · rename_i hc; obtain ⟨rfl⟩ := hc; exact callOk ok14 Try.func24 h1 h2 h lok24_1.body (e24 _ _ _ _ _ _) rfl h3
    · exact ok14 _ _ _ _ _ h1 h2 h3
  · exact ok14 _ _ _ _ _ h1 h2 h3

/-- math.IsNaN -/
noncomputable def r121 (x0 : Nat) : Bool :=
 ((!feq .f64 x0 x0))
noncomputable def a121 (x0 : Nat) (p : Bool) : Res := firstT [(true, .bool p, st0)]
noncomputable def t121 (x0 : Nat) : Res :=
 (some (.bool (!feq .f64 x0 x0), st0))
set_option maxRecDepth 100000 in
set_option maxHeartbeats 4000000 in
theorem e121 (x0 : Nat) : evFn Try.prog ext T15 noL 200 Try.f121 [.float .f64 x0] st0 = firstT [(true, .bool (r121 x0), st0)] :=
 (show evFn Try.prog ext T15 noL 200 Try.f121 [.float .f64 x0] st0 = t121 x0 from by kernel_rfl).trans
 (show t121 x0 = a121 x0 (r121 x0) from rfl)
noncomputable def s121 (args : List Value) (s : St) : List (Bool × Value × St) :=
 match args, s.h with
 | [.float .f64 x0], [] => [(true, .bool (r121 x0), st0)]
 | _, _ => T15 121 args s
noncomputable def T16 : CallF := addF T15 121 s121
set_option maxRecDepth 100000 in
set_option maxHeartbeats 4000000 in
theorem ok16 : CfOk Try.prog T16 := by
  refine cfOk_add ok15 fun args s r s' h1 h2 h3 => ?_
  unfold s121 at h3; split at h3
  · rename_i h; exact callOk ok15 Try.func121 h1 h2 h (lfOkF_no _ _).body (e121 _) rfl h3
  · exact ok15 _ _ _ _ _ h1 h2 h3

/-- math.Abs -/
noncomputable def r126 (x0 : Nat) : Nat :=
 cond (!isN .f64 x0)
  ((Int.toNat (bits .andNot .u64 ((x0 : Nat) : Int) 9223372036854775808)))
  (9221120237041090560)
noncomputable def a126 (x0 : Nat) (p : Nat) : Res := firstT [(true, .float .f64 p, st0)]
noncomputable def t126 (x0 : Nat) : Res :=
 (cond (!isN .f64 x0)
 (some (.float .f64 (Int.toNat (bits .andNot .u64 ((x0 : Nat) : Int) 9223372036854775808)), st0))
 (some (.float .f64 9221120237041090560, st0)))
set_option maxRecDepth 100000 in
set_option maxHeartbeats 4000000 in
theorem e126 (x0 : Nat) : evFn Try.prog ext T16 noL 200 Try.f126 [.float .f64 x0] st0 = firstT [(true, .float .f64 (r126 x0), st0)] :=
 (show evFn Try.prog ext T16 noL 200 Try.f126 [.float .f64 x0] st0 = t126 x0 from by kernel_rfl).trans
 (show t126 x0 = a126 x0 (r126 x0) from (cond_app (a126 x0) _ rfl rfl))
noncomputable def s126 (args : List Value) (s : St) : List (Bool × Value × St) :=
 match args, s.h with
 | [.float .f64 x0], [] => [(true, .float .f64 (r126 x0), st0)]
 | _, _ => T16 126 args s
noncomputable def T17 : CallF := addF T16 126 s126
set_option maxRecDepth 100000 in
set_option maxHeartbeats 4000000 in
theorem ok17 : CfOk Try.prog T17 := by
  refine cfOk_add ok16 fun args s r s' h1 h2 h3 => ?_
  unfold s126 at h3; split at h3
  · rename_i h; exact callOk ok16 Try.func126 h1 h2 h (lfOkF_no _ _).body (e126 _) rfl h3
  · exact ok16 _ _ _ _ _ h1 h2 h3

/-- math.IsInf -/
noncomputable def r122 (x0 : Nat) (x1 : Int) : Bool :=
 cond ((x1 : Int) == 0)
  ((fgt .f64 (r126 x0) 9218868437227405311))
  (cond (decide ((x1 : Int) < 0))
   ((fgt .f64 (fneg .f64 x0) 9218868437227405311))
   ((fgt .f64 x0 9218868437227405311)))
noncomputable def a122 (x0 : Nat) (x1 : Int) (p : Bool) : Res := firstT [(true, .bool p, st0)]
noncomputable def t122 (x0 : Nat) (x1 : Int) : Res :=
 (cond ((x1 : Int) == 0)
 (some (.bool (fgt .f64 (r126 x0) 9218868437227405311), st0))
 (cond (decide ((x1 : Int) < 0))
  (some (.bool (fgt .f64 (fneg .f64 x0) 9218868437227405311), st0))
  (some (.bool (fgt .f64 x0 9218868437227405311), st0))))
set_option maxRecDepth 100000 in
set_option maxHeartbeats 4000000 in
theorem e122 (x0 : Nat) (x1 : Int) : evFn Try.prog ext T17 noL 200 Try.f122 [.float .f64 x0, .int .i64 x1] st0 = firstT [(true, .bool (r122 x0 x1), st0)] :=
 (show evFn Try.prog ext T17 noL 200 Try.f122 [.float .f64 x0, .int .i64 x1] st0 = t122 x0 x1 from by kernel_rfl).trans
 (show t122 x0 x1 = a122 x0 x1 (r122 x0 x1) from (cond_app (a122 x0 x1) _ rfl (cond_app (a122 x0 x1) _ rfl rfl)))
noncomputable def s122 (args : List Value) (s : St) : List (Bool × Value × St) :=
 match args, s.h with
 | [.float .f64 x0, .int .i64 x1], [] => [(true, .bool (r122 x0 x1), st0)]
 | _, _ => T17 122 args s
noncomputable def T18 : CallF := addF T17 122 s122
set_option maxRecDepth 100000 in
set_option maxHeartbeats 4000000 in
theorem ok18 : CfOk Try.prog T18 := by
  refine cfOk_add ok17 fun args s r s' h1 h2 h3 => ?_
  unfold s122 at h3; split at h3
  · rename_i h; exact callOk ok17 Try.func122 h1 h2 h (lfOkF_no _ _).body (e122 _ _) rfl h3
  · exact ok17 _ _ _ _ _ h1 h2 h3

/-- impl.isFinite -/
noncomputable def r104 (x0 : Nat) : Bool :=
 cond (r121 (widen x0))
  (false)
  (cond (r122 (widen x0) 0)
   (false)
   (true))
noncomputable def a104 (x0 : Nat) (p : Bool) : Res := firstT [(true, .bool p, ⟨[⟨true, (some (.tab [.fl .f32] ([[((x0 : Nat) : Int)]] : List (List Int))))⟩], 1, []⟩)]
noncomputable def t104 (x0 : Nat) : Res :=
 (cond (r121 (widen x0))
 (some (.bool false, ⟨[⟨true, (some (.tab [.fl .f32] ([[((x0 : Nat) : Int)]] : List (List Int))))⟩], 1, []⟩))
 (cond (r122 (widen x0) 0)
  (some (.bool false, ⟨[⟨true, (some (.tab [.fl .f32] ([[((x0 : Nat) : Int)]] : List (List Int))))⟩], 1, []⟩))
  (some (.bool true, ⟨[⟨true, (some (.tab [.fl .f32] ([[((x0 : Nat) : Int)]] : List (List Int))))⟩], 1, []⟩))))
set_option maxRecDepth 100000 in
set_option maxHeartbeats 4000000 in
theorem e104 (x0 : Nat) : evFn Try.prog ext T18 noL 200 Try.f104 [.slice (some ⟨0, 0, some 0⟩) 1 1] ⟨[⟨true, (some (.tab [.fl .f32] ([[((x0 : Nat) : Int)]] : List (List Int))))⟩], 1, []⟩ = firstT [(true, .bool (r104 x0), ⟨[⟨true, (some (.tab [.fl .f32] ([[((x0 : Nat) : Int)]] : List (List Int))))⟩], 1, []⟩)] :=
 (show evFn Try.prog ext T18 noL 200 Try.f104 [.slice (some ⟨0, 0, some 0⟩) 1 1] ⟨[⟨true, (some (.tab [.fl .f32] ([[((x0 : Nat) : Int)]] : List (List Int))))⟩], 1, []⟩ = t104 x0 from by kernel_rfl).trans
 (show t104 x0 = a104 x0 (r104 x0) from (cond_app (a104 x0) _ rfl (cond_app (a104 x0) _ rfl rfl)))
noncomputable def s104 (args : List Value) (s : St) : List (Bool × Value × St) :=
 match args, s.h with
 | [.slice (some ⟨f0, f1, some f2⟩) f3 f4], [⟨true, some (.tab [.fl .f32] [[.ofNat x0]])⟩] => if f0 = 0 ∧ f1 = 0 ∧ f2 = 0 ∧ f3 = 1 ∧ f4 = 1 then [(true, .bool (r104 x0), ⟨[⟨true, (some (.tab [.fl .f32] ([[((x0 : Nat) : Int)]] : List (List Int))))⟩], 1, []⟩)] else T18 104 args s
 | _, _ => T18 104 args s
noncomputable def T19 : CallF := addF T18 104 s104
set_option maxRecDepth 100000 in
set_option maxHeartbeats 4000000 in
theorem ok19 : CfOk Try.prog T19 := by
  refine cfOk_add ok18 fun args s r s' h1 h2 h3 => ?_
  unfold s104 at h3; split at h3
  · rename_i h; split at h3
    · rename_i hc; obtain ⟨rfl, rfl, rfl, rfl, rfl⟩ := hc; exact callOk ok18 Try.func104 h1 h2 h (lfOkF_no _ _).body (e104 _) rfl h3
    · exact ok18 _ _ _ _ _ h1 h2 h3
  · exact ok18 _ _ _ _ _ h1 h2 h3

/-- impl.IsAmount -/
noncomputable def r91 (x0 : Nat) : Bool :=
 cond (r104 x0)
  (cond (fgt .f32 x0 0 || feq .f32 x0 0)
   ((((Int.fdiv ((x0 : Nat) : Int) (2 ^ (min (31 : Int).toNat (IntKind.bits .u32)))) : Int) == 0))
   (false))
  (false)
noncomputable def a91 (x0 : Nat) (p : Bool) : Res := firstT [(true, .bool p, st0)]
noncomputable def t91 (x0 : Nat) : Res :=
 (cond (r104 x0)
 (cond (fgt .f32 x0 0 || feq .f32 x0 0)
  (some (.bool (((Int.fdiv ((x0 : Nat) : Int) (2 ^ (min (31 : Int).toNat (IntKind.bits .u32)))) : Int) == 0), st0))
  (some (.bool false, st0)))
 (some (.bool false, st0)))
noncomputable def w91 (x0 : Nat) : Res :=
 (cond (r104 x0)
 (cond (fgt .f32 x0 0 || feq .f32 x0 0)
  (cond (!isN .f32 x0)
   (some (.bool (((Int.fdiv ((x0 : Nat) : Int) (2 ^ (min (31 : Int).toNat (IntKind.bits .u32)))) : Int) == 0), st0))
   none)
  (some (.bool false, st0)))
 (some (.bool false, st0)))
set_option maxRecDepth 100000 in
set_option maxHeartbeats 4000000 in
theorem e91 (x0 : Nat) : evFn Try.prog ext T19 noL 200 Try.f91 [.float .f32 x0] st0 = firstT [(true, .bool (r91 x0), st0)] :=
 (show evFn Try.prog ext T19 noL 200 Try.f91 [.float .f32 x0] st0 = w91 x0 from by kernel_rfl).trans
 ((show w91 x0 = t91 x0 from (cond_cong _ (fun h0 => (cond_cong _ (fun h1 => (cond_t (ev_not1 (ev_or h1 (fun hq0 => (ev_gt1 hq0)) (fun hq0 => (ev_eq1 hq0)))) rfl)) (fun h1 => rfl))) (fun h0 => rfl))).trans
 (show t91 x0 = a91 x0 (r91 x0) from (cond_app (a91 x0) _ (cond_app (a91 x0) _ rfl rfl) rfl)))
noncomputable def s91 (args : List Value) (s : St) : List (Bool × Value × St) :=
 match args, s.h with
 | [.float .f32 x0], [] => [(true, .bool (r91 x0), st0)]
 | _, _ => T19 91 args s
noncomputable def T20 : CallF := addF T19 91 s91
set_option maxRecDepth 100000 in
set_option maxHeartbeats 4000000 in
theorem ok20 : CfOk Try.prog T20 := by
  refine cfOk_add ok19 fun args s r s' h1 h2 h3 => ?_
  unfold s91 at h3; split at h3
  · rename_i h; exact callOk ok19 Try.func91 h1 h2 h (lfOkF_no _ _).body (e91 _) rfl h3
  · exact ok19 _ _ _ _ _ h1 h2 h3

/-- impl.isUpTo -/
noncomputable def r85 (x0 x1 : Nat) : Bool :=
 cond (r91 x0)
  ((flt .f32 x0 x1 || feq .f32 x0 x1))
  (false)
noncomputable def a85 (x0 x1 : Nat) (p : Bool) : Res := firstT [(true, .bool p, st0)]
noncomputable def t85 (x0 x1 : Nat) : Res :=
 (cond (r91 x0)
 (some (.bool (flt .f32 x0 x1 || feq .f32 x0 x1), st0))
 (some (.bool false, st0)))
set_option maxRecDepth 100000 in
set_option maxHeartbeats 4000000 in
theorem e85 (x0 x1 : Nat) : evFn Try.prog ext T20 noL 200 Try.f85 [.float .f32 x0, .float .f32 x1] st0 = firstT [(true, .bool (r85 x0 x1), st0)] :=
 (show evFn Try.prog ext T20 noL 200 Try.f85 [.float .f32 x0, .float .f32 x1] st0 = t85 x0 x1 from by kernel_rfl).trans
 (show t85 x0 x1 = a85 x0 x1 (r85 x0 x1) from (cond_app (a85 x0 x1) _ rfl rfl))
noncomputable def s85 (args : List Value) (s : St) : List (Bool × Value × St) :=
 match args, s.h with
 | [.float .f32 x0, .float .f32 x1], [] => [(true, .bool (r85 x0 x1), st0)]
 | _, _ => T20 85 args s
noncomputable def T21 : CallF := addF T20 85 s85
set_option maxRecDepth 100000 in
set_option maxHeartbeats 4000000 in
theorem ok21 : CfOk Try.prog T21 := by
  refine cfOk_add ok20 fun args s r s' h1 h2 h3 => ?_
  unfold s85 at h3; split at h3
  · rename_i h; exact callOk ok20 Try.func85 h1 h2 h (lfOkF_no _ _).body (e85 _ _) rfl h3
  · exact ok20 _ _ _ _ _ h1 h2 h3

/-- impl.between -/
noncomputable def r86 (x0 x1 x2 : Nat) : Bool :=
 cond (fgt .f32 x0 x1 || feq .f32 x0 x1)
  ((flt .f32 x0 x2 || feq .f32 x0 x2))
  (false)
noncomputable def a86 (x0 x1 x2 : Nat) (p : Bool) : Res := firstT [(true, .bool p, st0)]
noncomputable def t86 (x0 x1 x2 : Nat) : Res :=
 (cond (fgt .f32 x0 x1 || feq .f32 x0 x1)
 (some (.bool (flt .f32 x0 x2 || feq .f32 x0 x2), st0))
 (some (.bool false, st0)))
set_option maxRecDepth 100000 in
set_option maxHeartbeats 4000000 in
theorem e86 (x0 x1 x2 : Nat) : evFn Try.prog ext T21 noL 200 Try.f86 [.float .f32 x0, .float .f32 x1, .float .f32 x2] st0 = firstT [(true, .bool (r86 x0 x1 x2), st0)] :=
 (show evFn Try.prog ext T21 noL 200 Try.f86 [.float .f32 x0, .float .f32 x1, .float .f32 x2] st0 = t86 x0 x1 x2 from by kernel_rfl).trans
 (show t86 x0 x1 x2 = a86 x0 x1 x2 (r86 x0 x1 x2) from (cond_app (a86 x0 x1 x2) _ rfl rfl))
noncomputable def s86 (args : List Value) (s : St) : List (Bool × Value × St) :=
 match args, s.h with
 | [.float .f32 x0, .float .f32 x1, .float .f32 x2], [] => [(true, .bool (r86 x0 x1 x2), st0)]
 | _, _ => T21 86 args s
noncomputable def T22 : CallF := addF T21 86 s86
set_option maxRecDepth 100000 in
set_option maxHeartbeats 4000000 in
theorem ok22 : CfOk Try.prog T22 := by
  refine cfOk_add ok21 fun args s r s' h1 h2 h3 => ?_
  unfold s86 at h3; split at h3
  · rename_i h; exact callOk ok21 Try.func86 h1 h2 h (lfOkF_no _ _).body (e86 _ _ _) rfl h3
  · exact ok21 _ _ _ _ _ h1 h2 h3

/-- impl.ValidWood -/
noncomputable def r38 (x0 x1 x2 x3 x4 x5 x6 x7 x8 x9 x10 x11 x12 x13 x14 x15 x16 x17 : Nat) : Bool :=
 cond (!(r85 x0 1092616192))
  (false)
  (cond (!(r85 x12 1092616192))
   (false)
   (cond (!(r86 x6 3262119936 1153138688))
    (false)
    (cond (!(r85 x1 1092616192))
     (false)
     (cond (!(r85 x13 1092616192))
      (false)
      (cond (!(r86 x7 3262119936 1153138688))
       (false)
       (cond (!(r85 x2 1092616192))
        (false)
        (cond (!(r85 x14 1092616192))
         (false)
         (cond (!(r86 x8 3262119936 1153138688))
          (false)
          (cond (!(r85 x3 1092616192))
           (false)
           (cond (!(r85 x15 1092616192))
            (false)
            (cond (!(r86 x9 3262119936 1153138688))
             (false)
             (cond (!(r85 x4 1092616192))
              (false)
              (cond (!(r85 x16 1092616192))
               (false)
               (cond (!(r86 x10 3262119936 1153138688))
                (false)
                (cond (!(r85 x5 1092616192))
                 (false)
                 (cond (!(r85 x17 1092616192))
                  (false)
                  (cond (!(r86 x11 3262119936 1153138688))
                   (false)
                   (true))))))))))))))))))
noncomputable def a38 (x0 x1 x2 x3 x4 x5 x6 x7 x8 x9 x10 x11 x12 x13 x14 x15 x16 x17 : Nat) (p : Bool) : Res := firstT [(true, .bool p, st0)]
noncomputable def t38 (x0 x1 x2 x3 x4 x5 x6 x7 x8 x9 x10 x11 x12 x13 x14 x15 x16 x17 : Nat) : Res :=
 (cond (!(r85 x0 1092616192))
 (some (.bool false, st0))
 (cond (!(r85 x12 1092616192))
  (some (.bool false, st0))
  (cond (!(r86 x6 3262119936 1153138688))
   (some (.bool false, st0))
   (cond (!(r85 x1 1092616192))
    (some (.bool false, st0))
    (cond (!(r85 x13 1092616192))
     (some (.bool false, st0))
     (cond (!(r86 x7 3262119936 1153138688))
      (some (.bool false, st0))
      (cond (!(r85 x2 1092616192))
       (some (.bool false, st0))
       (cond (!(r85 x14 1092616192))
        (some (.bool false, st0))
        (cond (!(r86 x8 3262119936 1153138688))
         (some (.bool false, st0))
         (cond (!(r85 x3 1092616192))
          (some (.bool false, st0))
          (cond (!(r85 x15 1092616192))
           (some (.bool false, st0))
           (cond (!(r86 x9 3262119936 1153138688))
            (some (.bool false, st0))
            (cond (!(r85 x4 1092616192))
             (some (.bool false, st0))
             (cond (!(r85 x16 1092616192))
              (some (.bool false, st0))
              (cond (!(r86 x10 3262119936 1153138688))
               (some (.bool false, st0))
               (cond (!(r85 x5 1092616192))
                (some (.bool false, st0))
                (cond (!(r85 x17 1092616192))
                 (some (.bool false, st0))
                 (cond (!(r86 x11 3262119936 1153138688))
                  (some (.bool false, st0))
                  (some (.bool true, st0))))))))))))))))))))
set_option maxRecDepth 100000 in
set_option maxHeartbeats 4000000 in
theorem e38 (x0 x1 x2 x3 x4 x5 x6 x7 x8 x9 x10 x11 x12 x13 x14 x15 x16 x17 : Nat) : evFn Try.prog ext T22 noL 200 Try.f38 [.agg #[.float .f32 x0, .float .f32 x1, .float .f32 x2, .float .f32 x3, .float .f32 x4, .float .f32 x5, .float .f32 x6, .float .f32 x7, .float .f32 x8, .float .f32 x9, .float .f32 x10, .float .f32 x11, .float .f32 x12, .float .f32 x13, .float .f32 x14, .float .f32 x15, .float .f32 x16, .float .f32 x17]] st0 = firstT [(true, .bool (r38 x0 x1 x2 x3 x4 x5 x6 x7 x8 x9 x10 x11 x12 x13 x14 x15 x16 x17), st0)] :=
 (show evFn Try.prog ext T22 noL 200 Try.f38 [.agg #[.float .f32 x0, .float .f32 x1, .float .f32 x2, .float .f32 x3, .float .f32 x4, .float .f32 x5, .float .f32 x6, .float .f32 x7, .float .f32 x8, .float .f32 x9, .float .f32 x10, .float .f32 x11, .float .f32 x12, .float .f32 x13, .float .f32 x14, .float .f32 x15, .float .f32 x16, .float .f32 x17]] st0 = t38 x0 x1 x2 x3 x4 x5 x6 x7 x8 x9 x10 x11 x12 x13 x14 x15 x16 x17 from by kernel_rfl).trans
 (show t38 x0 x1 x2 x3 x4 x5 x6 x7 x8 x9 x10 x11 x12 x13 x14 x15 x16 x17 = a38 x0 x1 x2 x3 x4 x5 x6 x7 x8 x9 x10 x11 x12 x13 x14 x15 x16 x17 (r38 x0 x1 x2 x3 x4 x5 x6 x7 x8 x9 x10 x11 x12 x13 x14 x15 x16 x17) from (cond_app (a38 x0 x1 x2 x3 x4 x5 x6 x7 x8 x9 x10 x11 x12 x13 x14 x15 x16 x17) _ rfl (cond_app (a38 x0 x1 x2 x3 x4 x5 x6 x7 x8 x9 x10 x11 x12 x13 x14 x15 x16 x17) _ rfl (cond_app (a38 x0 x1 x2 x3 x4 x5 x6 x7 x8 x9 x10 x11 x12 x13 x14 x15 x16 x17) _ rfl (cond_app (a38 x0 x1 x2 x3 x4 x5 x6 x7 x8 x9 x10 x11 x12 x13 x14 x15 x16 x17) _ rfl (cond_app (a38 x0 x1 x2 x3 x4 x5 x6 x7 x8 x9 x10 x11 x12 x13 x14 x15 x16 x17) _ rfl (cond_app (a38 x0 x1 x2 x3 x4 x5 x6 x7 x8 x9 x10 x11 x12 x13 x14 x15 x16 x17) _ rfl (cond_app (a38 x0 x1 x2 x3 x4 x5 x6 x7 x8 x9 x10 x11 x12 x13 x14 x15 x16 x17) _ rfl (cond_app (a38 x0 x1 x2 x3 x4 x5 x6 x7 x8 x9 x10 x11 x12 x13 x14 x15 x16 x17) _ rfl (cond_app (a38 x0 x1 x2 x3 x4 x5 x6 x7 x8 x9 x10 x11 x12 x13 x14 x15 x16 x17) _ rfl (cond_app (a38 x0 x1 x2 x3 x4 x5 x6 x7 x8 x9 x10 x11 x12 x13 x14 x15 x16 x17) _ rfl (cond_app (a38 x0 x1 x2 x3 x4 x5 x6 x7 x8 x9 x10 x11 x12 x13 x14 x15 x16 x17) _ rfl (cond_app (a38 x0 x1 x2 x3 x4 x5 x6 x7 x8 x9 x10 x11 x12 x13 x14 x15 x16 x17) _ rfl (cond_app (a38 x0 x1 x2 x3 x4 x5 x6 x7 x8 x9 x10 x11 x12 x13 x14 x15 x16 x17) _ rfl (cond_app (a38 x0 x1 x2 x3 x4 x5 x6 x7 x8 x9 x10 x11 x12 x13 x14 x15 x16 x17) _ rfl (cond_app (a38 x0 x1 x2 x3 x4 x5 x6 x7 x8 x9 x10 x11 x12 x13 x14 x15 x16 x17) _ rfl (cond_app (a38 x0 x1 x2 x3 x4 x5 x6 x7 x8 x9 x10 x11 x12 x13 x14 x15 x16 x17) _ rfl (cond_app (a38 x0 x1 x2 x3 x4 x5 x6 x7 x8 x9 x10 x11 x12 x13 x14 x15 x16 x17) _ rfl (cond_app (a38 x0 x1 x2 x3 x4 x5 x6 x7 x8 x9 x10 x11 x12 x13 x14 x15 x16 x17) _ rfl rfl)))))))))))))))))))
noncomputable def s38 (args : List Value) (s : St) : List (Bool × Value × St) :=
 match args, s.h with
 | [.agg ⟨[.float .f32 x0, .float .f32 x1, .float .f32 x2, .float .f32 x3, .float .f32 x4, .float .f32 x5, .float .f32 x6, .float .f32 x7, .float .f32 x8, .float .f32 x9, .float .f32 x10, .float .f32 x11, .float .f32 x12, .float .f32 x13, .float .f32 x14, .float .f32 x15, .float .f32 x16, .float .f32 x17]⟩], [] => [(true, .bool (r38 x0 x1 x2 x3 x4 x5 x6 x7 x8 x9 x10 x11 x12 x13 x14 x15 x16 x17), st0)]
 | _, _ => T22 38 args s
noncomputable def T23 : CallF := addF T22 38 s38
set_option maxRecDepth 100000 in
set_option maxHeartbeats 4000000 in
theorem ok23 : CfOk Try.prog T23 := by
  refine cfOk_add ok22 fun args s r s' h1 h2 h3 => ?_
  unfold s38 at h3; split at h3
  · rename_i h; exact callOk ok22 Try.func38 h1 h2 h (lfOkF_no _ _).body (e38 _ _ _ _ _ _ _ _ _ _ _ _ _ _ _ _ _ _) rfl h3
  · exact ok22 _ _ _ _ _ h1 h2 h3

/-- impl.ValidStove, loop 0: one round -/
noncomputable def b64l0 (ih : Int → Int → Nat → Nat → Int → Int → Nat → List (List Int) → Nat) (x0 x1 : Int) (x2 x3 : Nat) (x4 x5 : Int) (x6 : Nat) (x7 : List (List Int)) : Nat :=
 let c34 := (r38 (Int.toNat ((x7.getD (Int.toNat x1) []).getD 0 0)) (Int.toNat ((x7.getD (Int.toNat x1) []).getD 1 0)) (Int.toNat ((x7.getD (Int.toNat x1) []).getD 2 0)) (Int.toNat ((x7.getD (Int.toNat x1) []).getD 3 0)) (Int.toNat ((x7.getD (Int.toNat x1) []).getD 4 0)) (Int.toNat ((x7.getD (Int.toNat x1) []).getD 5 0)) (Int.toNat ((x7.getD (Int.toNat x1) []).getD 6 0)) (Int.toNat ((x7.getD (Int.toNat x1) []).getD 7 0)) (Int.toNat ((x7.getD (Int.toNat x1) []).getD 8 0)) (Int.toNat ((x7.getD (Int.toNat x1) []).getD 9 0)) (Int.toNat ((x7.getD (Int.toNat x1) []).getD 10 0)) (Int.toNat ((x7.getD (Int.toNat x1) []).getD 11 0)) (Int.toNat ((x7.getD (Int.toNat x1) []).getD 12 0)) (Int.toNat ((x7.getD (Int.toNat x1) []).getD 13 0)) (Int.toNat ((x7.getD (Int.toNat x1) []).getD 14 0)) (Int.toNat ((x7.getD (Int.toNat x1) []).getD 15 0)) (Int.toNat ((x7.getD (Int.toNat x1) []).getD 16 0)) (Int.toNat ((x7.getD (Int.toNat x1) []).getD 17 0)))
 cond (decide ((x1 : Int) < x0))
  (cond ((decide ((0 : Int) ≤ x1)) && (Nat.blt (Int.toNat x1) x7.length))
   (cond (!c34)
    (0)
    (ih x0 (IntKind.i64.wrap (x1 + 1)) x2 x3 x4 x5 x6 x7))
   (2))
  (1)
noncomputable def r64l0 : Nat → Int → Int → Nat → Nat → Int → Int → Nat → List (List Int) → Nat
 | 0, _, _, _, _, _, _, _, _ => (2)
 | m + 1, x0, x1, x2, x3, x4, x5, x6, x7 => b64l0 (r64l0 m) x0 x1 x2 x3 x4 x5 x6 x7
noncomputable def a64l0 (x0 x1 : Int) (x2 x3 : Nat) (x4 x5 : Int) (x6 : Nat) (x7 : List (List Int)) (p : Nat) : Option (Fin' × List Value × St) := firstT ([((Nat.beq p 0), .ret, [.pointer (some ⟨0, 0, some 0⟩), .bool false], ⟨[⟨true, (some (.cells [wsl 1, .float .f32 x2, .float .f32 x3, .int .i8 x4, .int .i64 x5, .float .f32 x6]))⟩, ⟨true, (some (.tab sc0 x7))⟩], 2, []⟩), ((Nat.beq p 1), .exit 0, [.pointer (some ⟨0, 0, some 0⟩), anyV], ⟨[⟨true, (some (.cells [wsl 1, .float .f32 x2, .float .f32 x3, .int .i8 x4, .int .i64 x5, .float .f32 x6]))⟩, ⟨true, (some (.tab sc0 x7))⟩], 2, []⟩)].map fun (b, x) => (b, (x.1, frameOf 58 [1, 2] x.2.1, x.2.2)))
theorem v64l0 (x0 x1 : Int) (x2 x3 : Nat) (x4 x5 : Int) (x6 : Nat) (x7 : List (List Int)) (p : Nat) : alts ([((Nat.beq p 0), .ret, [.pointer (some ⟨0, 0, some 0⟩), .bool false], ⟨[⟨true, (some (.cells [wsl 1, .float .f32 x2, .float .f32 x3, .int .i8 x4, .int .i64 x5, .float .f32 x6]))⟩, ⟨true, (some (.tab sc0 x7))⟩], 2, []⟩), ((Nat.beq p 1), .exit 0, [.pointer (some ⟨0, 0, some 0⟩), anyV], ⟨[⟨true, (some (.cells [wsl 1, .float .f32 x2, .float .f32 x3, .int .i8 x4, .int .i64 x5, .float .f32 x6]))⟩, ⟨true, (some (.tab sc0 x7))⟩], 2, []⟩)].map fun (b, x) => (b, (x.1, frameOf 58 [1, 2] x.2.1, x.2.2))) some = a64l0 x0 x1 x2 x3 x4 x5 x6 x7 p := alts_first _
noncomputable def q64l0 (m : Nat) : SumK := fun vals s =>
 match vals, s.h with
 | [.pointer (some ⟨f0, f1, some f2⟩), .iface f3 .nilIface, .int .i64 x0, .int .i64 x1], [⟨true, some (.cells [.iface f4 .nilIface, .float .f32 x2, .float .f32 x3, .int .i8 x4, .int .i64 x5, .float .f32 x6])⟩, ⟨true, some (.tab [.fl .f32, .fl .f32, .fl .f32, .fl .f32, .fl .f32, .fl .f32, .fl .f32, .fl .f32, .fl .f32, .fl .f32, .fl .f32, .fl .f32, .fl .f32, .fl .f32, .fl .f32, .fl .f32, .fl .f32, .fl .f32] x7)⟩] => if f0 = 0 ∧ f1 = 0 ∧ f2 = 0 ∧ f3 = 1 ∧ f4 = 1 then [((Nat.beq (r64l0 m x0 x1 x2 x3 x4 x5 x6 x7) 0), .ret, [.pointer (some ⟨0, 0, some 0⟩), .bool false], ⟨[⟨true, (some (.cells [wsl 1, .float .f32 x2, .float .f32 x3, .int .i8 x4, .int .i64 x5, .float .f32 x6]))⟩, ⟨true, (some (.tab sc0 x7))⟩], 2, []⟩), ((Nat.beq (r64l0 m x0 x1 x2 x3 x4 x5 x6 x7) 1), .exit 0, [.pointer (some ⟨0, 0, some 0⟩), anyV], ⟨[⟨true, (some (.cells [wsl 1, .float .f32 x2, .float .f32 x3, .int .i8 x4, .int .i64 x5, .float .f32 x6]))⟩, ⟨true, (some (.tab sc0 x7))⟩], 2, []⟩)] else noQ vals s
 | _, _ => noQ vals s
noncomputable def t64l0 (ih : Int → Int → Nat → Nat → Int → Int → Nat → List (List Int) → Nat) (x0 x1 : Int) (x2 x3 : Nat) (x4 x5 : Int) (x6 : Nat) (x7 : List (List Int)) : Option (Fin' × List Value × St) :=
 let c34 := (r38 (Int.toNat ((x7.getD (Int.toNat x1) []).getD 0 0)) (Int.toNat ((x7.getD (Int.toNat x1) []).getD 1 0)) (Int.toNat ((x7.getD (Int.toNat x1) []).getD 2 0)) (Int.toNat ((x7.getD (Int.toNat x1) []).getD 3 0)) (Int.toNat ((x7.getD (Int.toNat x1) []).getD 4 0)) (Int.toNat ((x7.getD (Int.toNat x1) []).getD 5 0)) (Int.toNat ((x7.getD (Int.toNat x1) []).getD 6 0)) (Int.toNat ((x7.getD (Int.toNat x1) []).getD 7 0)) (Int.toNat ((x7.getD (Int.toNat x1) []).getD 8 0)) (Int.toNat ((x7.getD (Int.toNat x1) []).getD 9 0)) (Int.toNat ((x7.getD (Int.toNat x1) []).getD 10 0)) (Int.toNat ((x7.getD (Int.toNat x1) []).getD 11 0)) (Int.toNat ((x7.getD (Int.toNat x1) []).getD 12 0)) (Int.toNat ((x7.getD (Int.toNat x1) []).getD 13 0)) (Int.toNat ((x7.getD (Int.toNat x1) []).getD 14 0)) (Int.toNat ((x7.getD (Int.toNat x1) []).getD 15 0)) (Int.toNat ((x7.getD (Int.toNat x1) []).getD 16 0)) (Int.toNat ((x7.getD (Int.toNat x1) []).getD 17 0)))
 (cond (decide ((x1 : Int) < x0))
 (cond ((decide ((0 : Int) ≤ x1)) && (Nat.blt (Int.toNat x1) x7.length))
  (cond (!c34)
   (some (.ret, frameOf 58 [1, 2] [.pointer (some ⟨0, 0, some 0⟩), .bool false], ⟨[⟨true, (some (.cells [wsl 1, .float .f32 x2, .float .f32 x3, .int .i8 x4, .int .i64 x5, .float .f32 x6]))⟩, ⟨true, (some (.tab sc0 x7))⟩], 2, []⟩))
   (cond (Nat.beq (ih x0 (IntKind.i64.wrap (x1 + 1)) x2 x3 x4 x5 x6 x7) 0)
    (some (.ret, frameOf 58 [1, 2] [.pointer (some ⟨0, 0, some 0⟩), .bool false], ⟨[⟨true, (some (.cells [wsl 1, .float .f32 x2, .float .f32 x3, .int .i8 x4, .int .i64 x5, .float .f32 x6]))⟩, ⟨true, (some (.tab sc0 x7))⟩], 2, []⟩))
    (cond (Nat.beq (ih x0 (IntKind.i64.wrap (x1 + 1)) x2 x3 x4 x5 x6 x7) 1)
     (some (.exit 0, frameOf 58 [1, 2] [.pointer (some ⟨0, 0, some 0⟩), anyV], ⟨[⟨true, (some (.cells [wsl 1, .float .f32 x2, .float .f32 x3, .int .i8 x4, .int .i64 x5, .float .f32 x6]))⟩, ⟨true, (some (.tab sc0 x7))⟩], 2, []⟩))
     none)))
  none)
 (some (.exit 0, frameOf 58 [1, 2] [.pointer (some ⟨0, 0, some 0⟩), anyV], ⟨[⟨true, (some (.cells [wsl 1, .float .f32 x2, .float .f32 x3, .int .i8 x4, .int .i64 x5, .float .f32 x6]))⟩, ⟨true, (some (.tab sc0 x7))⟩], 2, []⟩)))
noncomputable def w64l0 (ih : Int → Int → Nat → Nat → Int → Int → Nat → List (List Int) → Nat) (x0 x1 : Int) (x2 x3 : Nat) (x4 x5 : Int) (x6 : Nat) (x7 : List (List Int)) : Option (Fin' × List Value × St) :=
 let c34 := (r38 (Int.toNat ((x7.getD (Int.toNat x1) []).getD 0 0)) (Int.toNat ((x7.getD (Int.toNat x1) []).getD 1 0)) (Int.toNat ((x7.getD (Int.toNat x1) []).getD 2 0)) (Int.toNat ((x7.getD (Int.toNat x1) []).getD 3 0)) (Int.toNat ((x7.getD (Int.toNat x1) []).getD 4 0)) (Int.toNat ((x7.getD (Int.toNat x1) []).getD 5 0)) (Int.toNat ((x7.getD (Int.toNat x1) []).getD 6 0)) (Int.toNat ((x7.getD (Int.toNat x1) []).getD 7 0)) (Int.toNat ((x7.getD (Int.toNat x1) []).getD 8 0)) (Int.toNat ((x7.getD (Int.toNat x1) []).getD 9 0)) (Int.toNat ((x7.getD (Int.toNat x1) []).getD 10 0)) (Int.toNat ((x7.getD (Int.toNat x1) []).getD 11 0)) (Int.toNat ((x7.getD (Int.toNat x1) []).getD 12 0)) (Int.toNat ((x7.getD (Int.toNat x1) []).getD 13 0)) (Int.toNat ((x7.getD (Int.toNat x1) []).getD 14 0)) (Int.toNat ((x7.getD (Int.toNat x1) []).getD 15 0)) (Int.toNat ((x7.getD (Int.toNat x1) []).getD 16 0)) (Int.toNat ((x7.getD (Int.toNat x1) []).getD 17 0)))
 (cond (decide ((x1 : Int) < x0))
 (cond ((decide ((0 : Int) ≤ x1)) && (Nat.blt (Int.toNat x1) x7.length))
  (cond (Nat.blt (Int.toNat x1) x7.length)
   (cond (!c34)
    (some (.ret, frameOf 58 [1, 2] [.pointer (some ⟨0, 0, some 0⟩), .bool false], ⟨[⟨true, (some (.cells [wsl 1, .float .f32 x2, .float .f32 x3, .int .i8 x4, .int .i64 x5, .float .f32 x6]))⟩, ⟨true, (some (.tab sc0 x7))⟩], 2, []⟩))
    (cond (Nat.beq (ih x0 (IntKind.i64.wrap (x1 + 1)) x2 x3 x4 x5 x6 x7) 0)
     (some (.ret, frameOf 58 [1, 2] [.pointer (some ⟨0, 0, some 0⟩), .bool false], ⟨[⟨true, (some (.cells [wsl 1, .float .f32 x2, .float .f32 x3, .int .i8 x4, .int .i64 x5, .float .f32 x6]))⟩, ⟨true, (some (.tab sc0 x7))⟩], 2, []⟩))
     (cond (Nat.beq (ih x0 (IntKind.i64.wrap (x1 + 1)) x2 x3 x4 x5 x6 x7) 1)
      (some (.exit 0, frameOf 58 [1, 2] [.pointer (some ⟨0, 0, some 0⟩), anyV], ⟨[⟨true, (some (.cells [wsl 1, .float .f32 x2, .float .f32 x3, .int .i8 x4, .int .i64 x5, .float .f32 x6]))⟩, ⟨true, (some (.tab sc0 x7))⟩], 2, []⟩))
      none)))
   none)
  none)
 (some (.exit 0, frameOf 58 [1, 2] [.pointer (some ⟨0, 0, some 0⟩), anyV], ⟨[⟨true, (some (.cells [wsl 1, .float .f32 x2, .float .f32 x3, .int .i8 x4, .int .i64 x5, .float .f32 x6]))⟩, ⟨true, (some (.tab sc0 x7))⟩], 2, []⟩)))
set_option maxRecDepth 100000 in
set_option maxHeartbeats 4000000 in
theorem e64l0 (m : Nat) (x0 x1 : Int) (x2 x3 : Nat) (x4 x5 : Int) (x6 : Nat) (x7 : List (List Int)) : evC Try.prog ext T23 noL 200 (loopN Try.f64 0) (loopTail [1, 10, 11, 12] [1, 2] [] (sumK 58 [1, 10, 11, 12] [1, 2] (q64l0 m))) (frameOf 58 [1, 10, 11, 12] [.pointer (some ⟨0, 0, some 0⟩), wsl 1, .int .i64 x0, .int .i64 x1]) ⟨[⟨true, (some (.cells [wsl 1, .float .f32 x2, .float .f32 x3, .int .i8 x4, .int .i64 x5, .float .f32 x6]))⟩, ⟨true, (some (.tab sc0 x7))⟩], 2, []⟩ = firstT ([((Nat.beq (r64l0 (m + 1) x0 x1 x2 x3 x4 x5 x6 x7) 0), .ret, [.pointer (some ⟨0, 0, some 0⟩), .bool false], ⟨[⟨true, (some (.cells [wsl 1, .float .f32 x2, .float .f32 x3, .int .i8 x4, .int .i64 x5, .float .f32 x6]))⟩, ⟨true, (some (.tab sc0 x7))⟩], 2, []⟩), ((Nat.beq (r64l0 (m + 1) x0 x1 x2 x3 x4 x5 x6 x7) 1), .exit 0, [.pointer (some ⟨0, 0, some 0⟩), anyV], ⟨[⟨true, (some (.cells [wsl 1, .float .f32 x2, .float .f32 x3, .int .i8 x4, .int .i64 x5, .float .f32 x6]))⟩, ⟨true, (some (.tab sc0 x7))⟩], 2, []⟩)].map fun (b, x) => (b, (x.1, frameOf 58 [1, 2] x.2.1, x.2.2))) :=
 (show evC Try.prog ext T23 noL 200 (loopN Try.f64 0) (loopTail [1, 10, 11, 12] [1, 2] [] (sumK 58 [1, 10, 11, 12] [1, 2] (q64l0 m))) (frameOf 58 [1, 10, 11, 12] [.pointer (some ⟨0, 0, some 0⟩), wsl 1, .int .i64 x0, .int .i64 x1]) ⟨[⟨true, (some (.cells [wsl 1, .float .f32 x2, .float .f32 x3, .int .i8 x4, .int .i64 x5, .float .f32 x6]))⟩, ⟨true, (some (.tab sc0 x7))⟩], 2, []⟩ = w64l0 (r64l0 m) x0 x1 x2 x3 x4 x5 x6 x7 from by kernel_rfl).trans
 ((show w64l0 (r64l0 m) x0 x1 x2 x3 x4 x5 x6 x7 = t64l0 (r64l0 m) x0 x1 x2 x3 x4 x5 x6 x7 from (cond_cong _ (fun h0 => (cond_cong _ (fun h1 => (cond_t (ev_and2 h1) rfl)) (fun h1 => rfl))) (fun h0 => rfl))).trans
 (show t64l0 (r64l0 m) x0 x1 x2 x3 x4 x5 x6 x7 = a64l0 x0 x1 x2 x3 x4 x5 x6 x7 (r64l0 (m + 1) x0 x1 x2 x3 x4 x5 x6 x7) from (cond_app (a64l0 x0 x1 x2 x3 x4 x5 x6 x7) _ (cond_app (a64l0 x0 x1 x2 x3 x4 x5 x6 x7) _ (cond_app (a64l0 x0 x1 x2 x3 x4 x5 x6 x7) _ rfl (v64l0 x0 x1 x2 x3 x4 x5 x6 x7 ((r64l0 m) x0 (IntKind.i64.wrap (x1 + 1)) x2 x3 x4 x5 x6 x7))) rfl) rfl)))
set_option maxRecDepth 100000 in
set_option maxHeartbeats 4000000 in
theorem qm64l0 : ∀ m, SumKOk Try.prog (loopN Try.f64 0) 58 [1, 10, 11, 12] [1, 2] (q64l0 m) := by
  intro m
  induction m with
  | zero =>
    intro vals s x h1 h2 h3
    unfold q64l0 at h3; split at h3
    · rename_i h; split at h3
      · rename_i hc; obtain ⟨rfl, rfl, rfl, rfl, rfl⟩ := hc; exact absurd h3 (by simp [r64l0, firstT, Nat.beq])
      · exact noQ_ok _ _ _ h1 h2 h3
    · exact noQ_ok _ _ _ h1 h2 h3
  | succ m ih =>
    intro vals s x h1 h2 h3
    unfold q64l0 at h3; split at h3
    · rename_i h; split at h3
      · rename_i hc; obtain ⟨rfl, rfl, rfl, rfl, rfl⟩ := hc; exact sum_step ok23 extOk mixed ((lfOkF_no _ _).inner (by kernel_rfl)) ih h1 h2 h (e64l0 m _ _ _ _ _ _ _ _) rfl h3
      · exact noQ_ok _ _ _ h1 h2 h3
    · exact noQ_ok _ _ _ h1 h2 h3
noncomputable def Q64l0 : SumK := fun vals s => q64l0 (fuelOf vals s.h) vals s
theorem qok64l0 : SumKOk Try.prog (loopN Try.f64 0) 58 [1, 10, 11, 12] [1, 2] Q64l0 := fuel_ok qm64l0 fuelOf
noncomputable def L64_1 : LoopT := addL noL 5 [1, 10, 11, 12] (sumK 58 [1, 10, 11, 12] [1, 2] Q64l0)
theorem lok64_1 : LfOkF Try.prog L64_1 Try.f64 := lfOkF_add (lfOkF_no _ _) qok64l0 (by kernel_rfl) (by kernel_rfl) (by kernel_rfl)

/-- impl.IsShare -/
noncomputable def r77 (x0 : Nat) : Bool :=
 cond (r91 x0)
  ((flt .f32 x0 1065353216 || feq .f32 x0 1065353216))
  (false)
noncomputable def a77 (x0 : Nat) (p : Bool) : Res := firstT [(true, .bool p, st0)]
noncomputable def t77 (x0 : Nat) : Res :=
 (cond (r91 x0)
 (some (.bool (flt .f32 x0 1065353216 || feq .f32 x0 1065353216), st0))
 (some (.bool false, st0)))
set_option maxRecDepth 100000 in
set_option maxHeartbeats 4000000 in
theorem e77 (x0 : Nat) : evFn Try.prog ext T23 noL 200 Try.f77 [.float .f32 x0] st0 = firstT [(true, .bool (r77 x0), st0)] :=
 (show evFn Try.prog ext T23 noL 200 Try.f77 [.float .f32 x0] st0 = t77 x0 from by kernel_rfl).trans
 (show t77 x0 = a77 x0 (r77 x0) from (cond_app (a77 x0) _ rfl rfl))
noncomputable def s77 (args : List Value) (s : St) : List (Bool × Value × St) :=
 match args, s.h with
 | [.float .f32 x0], [] => [(true, .bool (r77 x0), st0)]
 | _, _ => T23 77 args s
noncomputable def T24 : CallF := addF T23 77 s77
set_option maxRecDepth 100000 in
set_option maxHeartbeats 4000000 in
theorem ok24 : CfOk Try.prog T24 := by
  refine cfOk_add ok23 fun args s r s' h1 h2 h3 => ?_
  unfold s77 at h3; split at h3
  · rename_i h; exact callOk ok23 Try.func77 h1 h2 h (lfOkF_no _ _).body (e77 _) rfl h3
  · exact ok23 _ _ _ _ _ h1 h2 h3

/-- impl.ValidStove -/
noncomputable def r64 (x0 x1 : Nat) (x2 x3 : Int) (x4 : Nat) (x5 : List (List Int)) : Nat × Bool :=
 cond (decide ((((x5.length : Nat) : Int) : Int) > 6))
  (0, false)
  (cond (Nat.beq (r64l0 (1000 + x5.length) ((x5.length : Nat) : Int) 0 x0 x1 x2 x3 x4 x5) 0)
   (0, false)
   (cond (Nat.beq (r64l0 (1000 + x5.length) ((x5.length : Nat) : Int) 0 x0 x1 x2 x3 x4 x5) 1)
    (cond (r86 x0 3262119936 1153138688)
     (cond (r77 x1)
      (cond (decide ((x2 : Int) ≥ 0))
       (cond (decide ((x2 : Int) ≤ 3))
        (cond (decide ((x3 : Int) ≥ 0))
         (cond (decide ((x3 : Int) ≤ 1000000))
          (cond (r91 x4)
           (0, (flt .f32 x4 1065353216))
           (0, false))
          (0, false))
         (0, false))
        (0, false))
       (0, false))
      (0, false))
     (0, false))
    (1, false)))
noncomputable def a64 (x0 x1 : Nat) (x2 x3 : Int) (x4 : Nat) (x5 : List (List Int)) (p : Nat × Bool) : Res := firstT [((Nat.beq (p.1) 0), .bool (p.2), ⟨[⟨true, (some (.tab sc0 x5))⟩], 1, []⟩)]
noncomputable def t64 (x0 x1 : Nat) (x2 x3 : Int) (x4 : Nat) (x5 : List (List Int)) : Res :=
 (cond (decide ((((x5.length : Nat) : Int) : Int) > 6))
 (some (.bool false, ⟨[⟨true, (some (.tab sc0 x5))⟩], 1, []⟩))
 (cond (Nat.beq (r64l0 (1000 + x5.length) ((x5.length : Nat) : Int) 0 x0 x1 x2 x3 x4 x5) 0)
  (some (.bool false, ⟨[⟨true, (some (.tab sc0 x5))⟩], 1, []⟩))
  (cond (Nat.beq (r64l0 (1000 + x5.length) ((x5.length : Nat) : Int) 0 x0 x1 x2 x3 x4 x5) 1)
   (cond (r86 x0 3262119936 1153138688)
    (cond (r77 x1)
     (cond (decide ((x2 : Int) ≥ 0))
      (cond (decide ((x2 : Int) ≤ 3))
       (cond (decide ((x3 : Int) ≥ 0))
        (cond (decide ((x3 : Int) ≤ 1000000))
         (cond (r91 x4)
          (some (.bool (flt .f32 x4 1065353216), ⟨[⟨true, (some (.tab sc0 x5))⟩], 1, []⟩))
          (some (.bool false, ⟨[⟨true, (some (.tab sc0 x5))⟩], 1, []⟩)))
         (some (.bool false, ⟨[⟨true, (some (.tab sc0 x5))⟩], 1, []⟩)))
        (some (.bool false, ⟨[⟨true, (some (.tab sc0 x5))⟩], 1, []⟩)))
       (some (.bool false, ⟨[⟨true, (some (.tab sc0 x5))⟩], 1, []⟩)))
      (some (.bool false, ⟨[⟨true, (some (.tab sc0 x5))⟩], 1, []⟩)))
     (some (.bool false, ⟨[⟨true, (some (.tab sc0 x5))⟩], 1, []⟩)))
    (some (.bool false, ⟨[⟨true, (some (.tab sc0 x5))⟩], 1, []⟩)))
   none)))
set_option maxRecDepth 100000 in
set_option maxHeartbeats 4000000 in
theorem e64 (x0 x1 : Nat) (x2 x3 : Int) (x4 : Nat) (x5 : List (List Int)) : evFn Try.prog ext T24 L64_1 200 Try.f64 [.agg #[wsl 0, .float .f32 x0, .float .f32 x1, .int .i8 x2, .int .i64 x3, .float .f32 x4]] ⟨[⟨true, (some (.tab sc0 x5))⟩], 1, []⟩ = firstT [((Nat.beq ((r64 x0 x1 x2 x3 x4 x5).1) 0), .bool ((r64 x0 x1 x2 x3 x4 x5).2), ⟨[⟨true, (some (.tab sc0 x5))⟩], 1, []⟩)] :=
 (show evFn Try.prog ext T24 L64_1 200 Try.f64 [.agg #[wsl 0, .float .f32 x0, .float .f32 x1, .int .i8 x2, .int .i64 x3, .float .f32 x4]] ⟨[⟨true, (some (.tab sc0 x5))⟩], 1, []⟩ = t64 x0 x1 x2 x3 x4 x5 from by kernel_rfl).trans
 (show t64 x0 x1 x2 x3 x4 x5 = a64 x0 x1 x2 x3 x4 x5 (r64 x0 x1 x2 x3 x4 x5) from (cond_app (a64 x0 x1 x2 x3 x4 x5) _ rfl (cond_app (a64 x0 x1 x2 x3 x4 x5) _ rfl (cond_app (a64 x0 x1 x2 x3 x4 x5) _ (cond_app (a64 x0 x1 x2 x3 x4 x5) _ (cond_app (a64 x0 x1 x2 x3 x4 x5) _ (cond_app (a64 x0 x1 x2 x3 x4 x5) _ (cond_app (a64 x0 x1 x2 x3 x4 x5) _ (cond_app (a64 x0 x1 x2 x3 x4 x5) _ (cond_app (a64 x0 x1 x2 x3 x4 x5) _ (cond_app (a64 x0 x1 x2 x3 x4 x5) _ rfl rfl) rfl) rfl) rfl) rfl) rfl) rfl) rfl))))
noncomputable def s64 (args : List Value) (s : St) : List (Bool × Value × St) :=
 match args, s.h with
 | [.agg ⟨[.iface f0 .nilIface, .float .f32 x0, .float .f32 x1, .int .i8 x2, .int .i64 x3, .float .f32 x4]⟩], [⟨true, some (.tab [.fl .f32, .fl .f32, .fl .f32, .fl .f32, .fl .f32, .fl .f32, .fl .f32, .fl .f32, .fl .f32, .fl .f32, .fl .f32, .fl .f32, .fl .f32, .fl .f32, .fl .f32, .fl .f32, .fl .f32, .fl .f32] x5)⟩] => if f0 = 0 then [((Nat.beq ((r64 x0 x1 x2 x3 x4 x5).1) 0), .bool ((r64 x0 x1 x2 x3 x4 x5).2), ⟨[⟨true, (some (.tab sc0 x5))⟩], 1, []⟩)] else T24 64 args s
 | _, _ => T24 64 args s
noncomputable def T25 : CallF := addF T24 64 s64
set_option maxRecDepth 100000 in
set_option maxHeartbeats 4000000 in
theorem ok25 : CfOk Try.prog T25 := by
  refine cfOk_add ok24 fun args s r s' h1 h2 h3 => ?_
  unfold s64 at h3; split at h3
  · rename_i h; split at h3
    · rename_i hc; obtain ⟨rfl⟩ := hc; exact callOk ok24 Try.func64 h1 h2 h lok64_1.body (e64 _ _ _ _ _ _) rfl h3
    · exact ok24 _ _ _ _ _ h1 h2 h3
  · exact ok24 _ _ _ _ _ h1 h2 h3

/-- impl.sum -/
noncomputable def r60 (x0 x1 x2 x3 x4 x5 x6 x7 x8 x9 x10 x11 x12 x13 x14 x15 x16 x17 : Nat) : Nat :=
 ((fadd .f32 (fadd .f32 (fadd .f32 (fadd .f32 (fadd .f32 x12 x13) x14) x15) x16) x17))
noncomputable def a60 (x0 x1 x2 x3 x4 x5 x6 x7 x8 x9 x10 x11 x12 x13 x14 x15 x16 x17 : Nat) (p : Nat) : Res := firstT [(true, .float .f32 p, ⟨[⟨true, (some (.cells [.float .f32 x0, .float .f32 x1, .float .f32 x2, .float .f32 x3, .float .f32 x4, .float .f32 x5, .float .f32 x6, .float .f32 x7, .float .f32 x8, .float .f32 x9, .float .f32 x10, .float .f32 x11, .float .f32 x12, .float .f32 x13, .float .f32 x14, .float .f32 x15, .float .f32 x16, .float .f32 x17]))⟩], 1, []⟩)]
noncomputable def t60 (x0 x1 x2 x3 x4 x5 x6 x7 x8 x9 x10 x11 x12 x13 x14 x15 x16 x17 : Nat) : Res :=
 (some (.float .f32 (fadd .f32 (fadd .f32 (fadd .f32 (fadd .f32 (fadd .f32 x12 x13) x14) x15) x16) x17), ⟨[⟨true, (some (.cells [.float .f32 x0, .float .f32 x1, .float .f32 x2, .float .f32 x3, .float .f32 x4, .float .f32 x5, .float .f32 x6, .float .f32 x7, .float .f32 x8, .float .f32 x9, .float .f32 x10, .float .f32 x11, .float .f32 x12, .float .f32 x13, .float .f32 x14, .float .f32 x15, .float .f32 x16, .float .f32 x17]))⟩], 1, []⟩))
set_option maxRecDepth 100000 in
set_option maxHeartbeats 4000000 in
theorem e60 (x0 x1 x2 x3 x4 x5 x6 x7 x8 x9 x10 x11 x12 x13 x14 x15 x16 x17 : Nat) : evFn Try.prog ext T25 noL 200 Try.f60 [xsl ⟨0, 0, some 12⟩ 6 6] ⟨[⟨true, (some (.cells [.float .f32 x0, .float .f32 x1, .float .f32 x2, .float .f32 x3, .float .f32 x4, .float .f32 x5, .float .f32 x6, .float .f32 x7, .float .f32 x8, .float .f32 x9, .float .f32 x10, .float .f32 x11, .float .f32 x12, .float .f32 x13, .float .f32 x14, .float .f32 x15, .float .f32 x16, .float .f32 x17]))⟩], 1, []⟩ = firstT [(true, .float .f32 (r60 x0 x1 x2 x3 x4 x5 x6 x7 x8 x9 x10 x11 x12 x13 x14 x15 x16 x17), ⟨[⟨true, (some (.cells [.float .f32 x0, .float .f32 x1, .float .f32 x2, .float .f32 x3, .float .f32 x4, .float .f32 x5, .float .f32 x6, .float .f32 x7, .float .f32 x8, .float .f32 x9, .float .f32 x10, .float .f32 x11, .float .f32 x12, .float .f32 x13, .float .f32 x14, .float .f32 x15, .float .f32 x16, .float .f32 x17]))⟩], 1, []⟩)] :=
 (show evFn Try.prog ext T25 noL 200 Try.f60 [xsl ⟨0, 0, some 12⟩ 6 6] ⟨[⟨true, (some (.cells [.float .f32 x0, .float .f32 x1, .float .f32 x2, .float .f32 x3, .float .f32 x4, .float .f32 x5, .float .f32 x6, .float .f32 x7, .float .f32 x8, .float .f32 x9, .float .f32 x10, .float .f32 x11, .float .f32 x12, .float .f32 x13, .float .f32 x14, .float .f32 x15, .float .f32 x16, .float .f32 x17]))⟩], 1, []⟩ = t60 x0 x1 x2 x3 x4 x5 x6 x7 x8 x9 x10 x11 x12 x13 x14 x15 x16 x17 from by kernel_rfl).trans
 (show t60 x0 x1 x2 x3 x4 x5 x6 x7 x8 x9 x10 x11 x12 x13 x14 x15 x16 x17 = a60 x0 x1 x2 x3 x4 x5 x6 x7 x8 x9 x10 x11 x12 x13 x14 x15 x16 x17 (r60 x0 x1 x2 x3 x4 x5 x6 x7 x8 x9 x10 x11 x12 x13 x14 x15 x16 x17) from rfl)
noncomputable def s60 (args : List Value) (s : St) : List (Bool × Value × St) :=
 match args, s.h with
 | [.iface f5 (.slice (some ⟨f0, f1, some f2⟩) f3 f4)], [⟨true, some (.cells [.float .f32 x0, .float .f32 x1, .float .f32 x2, .float .f32 x3, .float .f32 x4, .float .f32 x5, .float .f32 x6, .float .f32 x7, .float .f32 x8, .float .f32 x9, .float .f32 x10, .float .f32 x11, .float .f32 x12, .float .f32 x13, .float .f32 x14, .float .f32 x15, .float .f32 x16, .float .f32 x17])⟩] => if f0 = 0 ∧ f1 = 0 ∧ f2 = 12 ∧ f3 = 6 ∧ f4 = 6 ∧ f5 = 0 then [(true, .float .f32 (r60 x0 x1 x2 x3 x4 x5 x6 x7 x8 x9 x10 x11 x12 x13 x14 x15 x16 x17), ⟨[⟨true, (some (.cells [.float .f32 x0, .float .f32 x1, .float .f32 x2, .float .f32 x3, .float .f32 x4, .float .f32 x5, .float .f32 x6, .float .f32 x7, .float .f32 x8, .float .f32 x9, .float .f32 x10, .float .f32 x11, .float .f32 x12, .float .f32 x13, .float .f32 x14, .float .f32 x15, .float .f32 x16, .float .f32 x17]))⟩], 1, []⟩)] else T25 60 args s
 | _, _ => T25 60 args s
noncomputable def T26 : CallF := addF T25 60 s60
set_option maxRecDepth 100000 in
set_option maxHeartbeats 4000000 in
theorem ok26 : CfOk Try.prog T26 := by
  refine cfOk_add ok25 fun args s r s' h1 h2 h3 => ?_
  unfold s60 at h3; split at h3
  · rename_i h; split at h3
    · rename_i hc; obtain ⟨rfl, rfl, rfl, rfl, rfl, rfl⟩ := hc; exact callOk ok25 Try.func60 h1 h2 h (lfOkF_no _ _).body (e60 _ _ _ _ _ _ _ _ _ _ _ _ _ _ _ _ _ _) rfl h3
    · exact ok25 _ _ _ _ _ h1 h2 h3
  · exact ok25 _ _ _ _ _ h1 h2 h3
end Go.Proofs.Ytbmagccjcccnaaa
