/- What the functions that the statements reach answer, part 3. -/
import Derived.Test.YtbmagccjcccnaaaDr2
namespace Go.Proofs.Ytbmagccjcccnaaa
open Go.Ab
set_option maxHeartbeats 4000000

/-- impl.DropSpent, loop 0: one round -/
noncomputable def b25l0 (ih : Int → Int → Nat → Nat → Int → Int → Nat → Nat → Nat → Nat → List (List Int) → List (List Int) → (Nat × List (List Int))) (x0 x1 : Int) (x2 x3 : Nat) (x4 x5 : Int) (x6 x7 x8 x9 : Nat) (x10 x11 : List (List Int)) : Nat × List (List Int) :=
 let c51 := (r60 (Int.toNat ((x11.getD (Int.toNat x1) []).getD 0 0)) (Int.toNat ((x11.getD (Int.toNat x1) []).getD 1 0)) (Int.toNat ((x11.getD (Int.toNat x1) []).getD 2 0)) (Int.toNat ((x11.getD (Int.toNat x1) []).getD 3 0)) (Int.toNat ((x11.getD (Int.toNat x1) []).getD 4 0)) (Int.toNat ((x11.getD (Int.toNat x1) []).getD 5 0)) (Int.toNat ((x11.getD (Int.toNat x1) []).getD 6 0)) (Int.toNat ((x11.getD (Int.toNat x1) []).getD 7 0)) (Int.toNat ((x11.getD (Int.toNat x1) []).getD 8 0)) (Int.toNat ((x11.getD (Int.toNat x1) []).getD 9 0)) (Int.toNat ((x11.getD (Int.toNat x1) []).getD 10 0)) (Int.toNat ((x11.getD (Int.toNat x1) []).getD 11 0)) (Int.toNat ((x11.getD (Int.toNat x1) []).getD 12 0)) (Int.toNat ((x11.getD (Int.toNat x1) []).getD 13 0)) (Int.toNat ((x11.getD (Int.toNat x1) []).getD 14 0)) (Int.toNat ((x11.getD (Int.toNat x1) []).getD 15 0)) (Int.toNat ((x11.getD (Int.toNat x1) []).getD 16 0)) (Int.toNat ((x11.getD (Int.toNat x1) []).getD 17 0)))
 cond (decide ((x1 : Int) < x0))
  (cond ((decide ((0 : Int) ≤ x1)) && (Nat.blt (Int.toNat x1) x11.length))
   (cond (!(flt .f32 c51 1015021568))
    (cond (Nat.ble ((x10.length + 1) * 73) 140737488355328)
     (cond (Nat.beq ((ih x0 (IntKind.i64.wrap (x1 + 1)) x2 x3 x4 x5 x6 x7 x8 x9 (((x10.drop 0).take x10.length) ++ ([[(((Int.toNat ((x11.getD (Int.toNat x1) []).getD 0 0)) : Nat) : Int), (((Int.toNat ((x11.getD (Int.toNat x1) []).getD 1 0)) : Nat) : Int), (((Int.toNat ((x11.getD (Int.toNat x1) []).getD 2 0)) : Nat) : Int), (((Int.toNat ((x11.getD (Int.toNat x1) []).getD 3 0)) : Nat) : Int), (((Int.toNat ((x11.getD (Int.toNat x1) []).getD 4 0)) : Nat) : Int), (((Int.toNat ((x11.getD (Int.toNat x1) []).getD 5 0)) : Nat) : Int), (((Int.toNat ((x11.getD (Int.toNat x1) []).getD 6 0)) : Nat) : Int), (((Int.toNat ((x11.getD (Int.toNat x1) []).getD 7 0)) : Nat) : Int), (((Int.toNat ((x11.getD (Int.toNat x1) []).getD 8 0)) : Nat) : Int), (((Int.toNat ((x11.getD (Int.toNat x1) []).getD 9 0)) : Nat) : Int), (((Int.toNat ((x11.getD (Int.toNat x1) []).getD 10 0)) : Nat) : Int), (((Int.toNat ((x11.getD (Int.toNat x1) []).getD 11 0)) : Nat) : Int), (((Int.toNat ((x11.getD (Int.toNat x1) []).getD 12 0)) : Nat) : Int), (((Int.toNat ((x11.getD (Int.toNat x1) []).getD 13 0)) : Nat) : Int), (((Int.toNat ((x11.getD (Int.toNat x1) []).getD 14 0)) : Nat) : Int), (((Int.toNat ((x11.getD (Int.toNat x1) []).getD 15 0)) : Nat) : Int), (((Int.toNat ((x11.getD (Int.toNat x1) []).getD 16 0)) : Nat) : Int), (((Int.toNat ((x11.getD (Int.toNat x1) []).getD 17 0)) : Nat) : Int)]] : List (List Int))) x11).1) 0)
      (0, ((ih x0 (IntKind.i64.wrap (x1 + 1)) x2 x3 x4 x5 x6 x7 x8 x9 (((x10.drop 0).take x10.length) ++ ([[(((Int.toNat ((x11.getD (Int.toNat x1) []).getD 0 0)) : Nat) : Int), (((Int.toNat ((x11.getD (Int.toNat x1) []).getD 1 0)) : Nat) : Int), (((Int.toNat ((x11.getD (Int.toNat x1) []).getD 2 0)) : Nat) : Int), (((Int.toNat ((x11.getD (Int.toNat x1) []).getD 3 0)) : Nat) : Int), (((Int.toNat ((x11.getD (Int.toNat x1) []).getD 4 0)) : Nat) : Int), (((Int.toNat ((x11.getD (Int.toNat x1) []).getD 5 0)) : Nat) : Int), (((Int.toNat ((x11.getD (Int.toNat x1) []).getD 6 0)) : Nat) : Int), (((Int.toNat ((x11.getD (Int.toNat x1) []).getD 7 0)) : Nat) : Int), (((Int.toNat ((x11.getD (Int.toNat x1) []).getD 8 0)) : Nat) : Int), (((Int.toNat ((x11.getD (Int.toNat x1) []).getD 9 0)) : Nat) : Int), (((Int.toNat ((x11.getD (Int.toNat x1) []).getD 10 0)) : Nat) : Int), (((Int.toNat ((x11.getD (Int.toNat x1) []).getD 11 0)) : Nat) : Int), (((Int.toNat ((x11.getD (Int.toNat x1) []).getD 12 0)) : Nat) : Int), (((Int.toNat ((x11.getD (Int.toNat x1) []).getD 13 0)) : Nat) : Int), (((Int.toNat ((x11.getD (Int.toNat x1) []).getD 14 0)) : Nat) : Int), (((Int.toNat ((x11.getD (Int.toNat x1) []).getD 15 0)) : Nat) : Int), (((Int.toNat ((x11.getD (Int.toNat x1) []).getD 16 0)) : Nat) : Int), (((Int.toNat ((x11.getD (Int.toNat x1) []).getD 17 0)) : Nat) : Int)]] : List (List Int))) x11).2))
      (cond (Nat.beq ((ih x0 (IntKind.i64.wrap (x1 + 1)) x2 x3 x4 x5 x6 x7 x8 x9 (((x10.drop 0).take x10.length) ++ ([[(((Int.toNat ((x11.getD (Int.toNat x1) []).getD 0 0)) : Nat) : Int), (((Int.toNat ((x11.getD (Int.toNat x1) []).getD 1 0)) : Nat) : Int), (((Int.toNat ((x11.getD (Int.toNat x1) []).getD 2 0)) : Nat) : Int), (((Int.toNat ((x11.getD (Int.toNat x1) []).getD 3 0)) : Nat) : Int), (((Int.toNat ((x11.getD (Int.toNat x1) []).getD 4 0)) : Nat) : Int), (((Int.toNat ((x11.getD (Int.toNat x1) []).getD 5 0)) : Nat) : Int), (((Int.toNat ((x11.getD (Int.toNat x1) []).getD 6 0)) : Nat) : Int), (((Int.toNat ((x11.getD (Int.toNat x1) []).getD 7 0)) : Nat) : Int), (((Int.toNat ((x11.getD (Int.toNat x1) []).getD 8 0)) : Nat) : Int), (((Int.toNat ((x11.getD (Int.toNat x1) []).getD 9 0)) : Nat) : Int), (((Int.toNat ((x11.getD (Int.toNat x1) []).getD 10 0)) : Nat) : Int), (((Int.toNat ((x11.getD (Int.toNat x1) []).getD 11 0)) : Nat) : Int), (((Int.toNat ((x11.getD (Int.toNat x1) []).getD 12 0)) : Nat) : Int), (((Int.toNat ((x11.getD (Int.toNat x1) []).getD 13 0)) : Nat) : Int), (((Int.toNat ((x11.getD (Int.toNat x1) []).getD 14 0)) : Nat) : Int), (((Int.toNat ((x11.getD (Int.toNat x1) []).getD 15 0)) : Nat) : Int), (((Int.toNat ((x11.getD (Int.toNat x1) []).getD 16 0)) : Nat) : Int), (((Int.toNat ((x11.getD (Int.toNat x1) []).getD 17 0)) : Nat) : Int)]] : List (List Int))) x11).1) 1)
       (0, (((x10.drop 0).take x10.length) ++ ([[(((Int.toNat ((x11.getD (Int.toNat x1) []).getD 0 0)) : Nat) : Int), (((Int.toNat ((x11.getD (Int.toNat x1) []).getD 1 0)) : Nat) : Int), (((Int.toNat ((x11.getD (Int.toNat x1) []).getD 2 0)) : Nat) : Int), (((Int.toNat ((x11.getD (Int.toNat x1) []).getD 3 0)) : Nat) : Int), (((Int.toNat ((x11.getD (Int.toNat x1) []).getD 4 0)) : Nat) : Int), (((Int.toNat ((x11.getD (Int.toNat x1) []).getD 5 0)) : Nat) : Int), (((Int.toNat ((x11.getD (Int.toNat x1) []).getD 6 0)) : Nat) : Int), (((Int.toNat ((x11.getD (Int.toNat x1) []).getD 7 0)) : Nat) : Int), (((Int.toNat ((x11.getD (Int.toNat x1) []).getD 8 0)) : Nat) : Int), (((Int.toNat ((x11.getD (Int.toNat x1) []).getD 9 0)) : Nat) : Int), (((Int.toNat ((x11.getD (Int.toNat x1) []).getD 10 0)) : Nat) : Int), (((Int.toNat ((x11.getD (Int.toNat x1) []).getD 11 0)) : Nat) : Int), (((Int.toNat ((x11.getD (Int.toNat x1) []).getD 12 0)) : Nat) : Int), (((Int.toNat ((x11.getD (Int.toNat x1) []).getD 13 0)) : Nat) : Int), (((Int.toNat ((x11.getD (Int.toNat x1) []).getD 14 0)) : Nat) : Int), (((Int.toNat ((x11.getD (Int.toNat x1) []).getD 15 0)) : Nat) : Int), (((Int.toNat ((x11.getD (Int.toNat x1) []).getD 16 0)) : Nat) : Int), (((Int.toNat ((x11.getD (Int.toNat x1) []).getD 17 0)) : Nat) : Int)]] : List (List Int))))
       (2, [])))
     (2, []))
    (ih x0 (IntKind.i64.wrap (x1 + 1)) x2 x3 x4 x5 x6 x7 x8 x9 x10 x11))
   (2, []))
  (1, [])
noncomputable def r25l0 : Nat → Int → Int → Nat → Nat → Int → Int → Nat → Nat → Nat → Nat → List (List Int) → List (List Int) → (Nat × List (List Int))
 | 0, _, _, _, _, _, _, _, _, _, _, _, _ => (2, [])
 | m + 1, x0, x1, x2, x3, x4, x5, x6, x7, x8, x9, x10, x11 => b25l0 (r25l0 m) x0 x1 x2 x3 x4 x5 x6 x7 x8 x9 x10 x11
noncomputable def a25l0 (x0 x1 : Int) (x2 x3 : Nat) (x4 x5 : Int) (x6 x7 x8 x9 : Nat) (x10 x11 : List (List Int)) (p : Nat × List (List Int)) : Option (Fin' × List Value × St) := firstT ([((Nat.beq (p.1) 0), .exit 0, [.pointer (some ⟨0, 0, some 0⟩), .pointer (some ⟨1, 0, some 0⟩), wsl 4], ⟨[⟨true, (some (.cells [wsl 3, .float .f32 x2, .float .f32 x3, .int .i8 x4, .int .i64 x5, .float .f32 x6]))⟩, ⟨true, (some (.cells [.slice none 0 0, .float .f32 x7, .float .f32 x8, .int .i8 0, .int .i64 0, .float .f32 x9]))⟩, ⟨true, none⟩, ⟨true, (some (.tab sc0 x11))⟩, ⟨true, (some (.tab sc0 (p.2)))⟩], 4, [2]⟩), ((Nat.beq (p.1) 1), .exit 0, [.pointer (some ⟨0, 0, some 0⟩), .pointer (some ⟨1, 0, some 0⟩), wsl 2], ⟨[⟨true, (some (.cells [wsl 3, .float .f32 x2, .float .f32 x3, .int .i8 x4, .int .i64 x5, .float .f32 x6]))⟩, ⟨true, (some (.cells [.slice none 0 0, .float .f32 x7, .float .f32 x8, .int .i8 0, .int .i64 0, .float .f32 x9]))⟩, ⟨true, (some (.tab sc0 x10))⟩, ⟨true, (some (.tab sc0 x11))⟩], 4, [2]⟩)].map fun (b, x) => (b, (x.1, frameOf 41 [1, 2, 5] x.2.1, x.2.2)))
theorem v25l0 (x0 x1 : Int) (x2 x3 : Nat) (x4 x5 : Int) (x6 x7 x8 x9 : Nat) (x10 x11 : List (List Int)) (p : Nat × List (List Int)) : alts ([((Nat.beq (p.1) 0), .exit 0, [.pointer (some ⟨0, 0, some 0⟩), .pointer (some ⟨1, 0, some 0⟩), wsl 4], ⟨[⟨true, (some (.cells [wsl 3, .float .f32 x2, .float .f32 x3, .int .i8 x4, .int .i64 x5, .float .f32 x6]))⟩, ⟨true, (some (.cells [.slice none 0 0, .float .f32 x7, .float .f32 x8, .int .i8 0, .int .i64 0, .float .f32 x9]))⟩, ⟨true, none⟩, ⟨true, (some (.tab sc0 x11))⟩, ⟨true, (some (.tab sc0 (p.2)))⟩], 4, [2]⟩), ((Nat.beq (p.1) 1), .exit 0, [.pointer (some ⟨0, 0, some 0⟩), .pointer (some ⟨1, 0, some 0⟩), wsl 2], ⟨[⟨true, (some (.cells [wsl 3, .float .f32 x2, .float .f32 x3, .int .i8 x4, .int .i64 x5, .float .f32 x6]))⟩, ⟨true, (some (.cells [.slice none 0 0, .float .f32 x7, .float .f32 x8, .int .i8 0, .int .i64 0, .float .f32 x9]))⟩, ⟨true, (some (.tab sc0 x10))⟩, ⟨true, (some (.tab sc0 x11))⟩], 4, [2]⟩)].map fun (b, x) => (b, (x.1, frameOf 41 [1, 2, 5] x.2.1, x.2.2))) some = a25l0 x0 x1 x2 x3 x4 x5 x6 x7 x8 x9 x10 x11 p := alts_first _
noncomputable def q25l0 (m : Nat) : SumK := fun vals s =>
 match vals, s.h with
 | [.pointer (some ⟨f0, f1, some f2⟩), .pointer (some ⟨f3, f4, some f5⟩), .iface f6 .nilIface, .iface f7 .nilIface, .int .i64 x0, .int .i64 x1], [⟨true, some (.cells [.iface f8 .nilIface, .float .f32 x2, .float .f32 x3, .int .i8 x4, .int .i64 x5, .float .f32 x6])⟩, ⟨true, some (.cells [.slice none f9 f10, .float .f32 x7, .float .f32 x8, .int .i8 f11, .int .i64 f12, .float .f32 x9])⟩, ⟨true, some (.tab [.fl .f32, .fl .f32, .fl .f32, .fl .f32, .fl .f32, .fl .f32, .fl .f32, .fl .f32, .fl .f32, .fl .f32, .fl .f32, .fl .f32, .fl .f32, .fl .f32, .fl .f32, .fl .f32, .fl .f32, .fl .f32] x10)⟩, ⟨true, some (.tab [.fl .f32, .fl .f32, .fl .f32, .fl .f32, .fl .f32, .fl .f32, .fl .f32, .fl .f32, .fl .f32, .fl .f32, .fl .f32, .fl .f32, .fl .f32, .fl .f32, .fl .f32, .fl .f32, .fl .f32, .fl .f32] x11)⟩] => if f0 = 0 ∧ f1 = 0 ∧ f2 = 0 ∧ f3 = 1 ∧ f4 = 0 ∧ f5 = 0 ∧ f6 = 2 ∧ f7 = 3 ∧ f8 = 3 ∧ f9 = 0 ∧ f10 = 0 ∧ f11 = 0 ∧ f12 = 0 then [((Nat.beq ((r25l0 m x0 x1 x2 x3 x4 x5 x6 x7 x8 x9 x10 x11).1) 0), .exit 0, [.pointer (some ⟨0, 0, some 0⟩), .pointer (some ⟨1, 0, some 0⟩), wsl 4], ⟨[⟨true, (some (.cells [wsl 3, .float .f32 x2, .float .f32 x3, .int .i8 x4, .int .i64 x5, .float .f32 x6]))⟩, ⟨true, (some (.cells [.slice none 0 0, .float .f32 x7, .float .f32 x8, .int .i8 0, .int .i64 0, .float .f32 x9]))⟩, ⟨true, none⟩, ⟨true, (some (.tab sc0 x11))⟩, ⟨true, (some (.tab sc0 ((r25l0 m x0 x1 x2 x3 x4 x5 x6 x7 x8 x9 x10 x11).2)))⟩], 4, [2]⟩), ((Nat.beq ((r25l0 m x0 x1 x2 x3 x4 x5 x6 x7 x8 x9 x10 x11).1) 1), .exit 0, [.pointer (some ⟨0, 0, some 0⟩), .pointer (some ⟨1, 0, some 0⟩), wsl 2], ⟨[⟨true, (some (.cells [wsl 3, .float .f32 x2, .float .f32 x3, .int .i8 x4, .int .i64 x5, .float .f32 x6]))⟩, ⟨true, (some (.cells [.slice none 0 0, .float .f32 x7, .float .f32 x8, .int .i8 0, .int .i64 0, .float .f32 x9]))⟩, ⟨true, (some (.tab sc0 x10))⟩, ⟨true, (some (.tab sc0 x11))⟩], 4, [2]⟩)] else noQ vals s
 | _, _ => noQ vals s
noncomputable def t25l0 (ih : Int → Int → Nat → Nat → Int → Int → Nat → Nat → Nat → Nat → List (List Int) → List (List Int) → (Nat × List (List Int))) (x0 x1 : Int) (x2 x3 : Nat) (x4 x5 : Int) (x6 x7 x8 x9 : Nat) (x10 x11 : List (List Int)) : Option (Fin' × List Value × St) :=
 let c51 := (r60 (Int.toNat ((x11.getD (Int.toNat x1) []).getD 0 0)) (Int.toNat ((x11.getD (Int.toNat x1) []).getD 1 0)) (Int.toNat ((x11.getD (Int.toNat x1) []).getD 2 0)) (Int.toNat ((x11.getD (Int.toNat x1) []).getD 3 0)) (Int.toNat ((x11.getD (Int.toNat x1) []).getD 4 0)) (Int.toNat ((x11.getD (Int.toNat x1) []).getD 5 0)) (Int.toNat ((x11.getD (Int.toNat x1) []).getD 6 0)) (Int.toNat ((x11.getD (Int.toNat x1) []).getD 7 0)) (Int.toNat ((x11.getD (Int.toNat x1) []).getD 8 0)) (Int.toNat ((x11.getD (Int.toNat x1) []).getD 9 0)) (Int.toNat ((x11.getD (Int.toNat x1) []).getD 10 0)) (Int.toNat ((x11.getD (Int.toNat x1) []).getD 11 0)) (Int.toNat ((x11.getD (Int.toNat x1) []).getD 12 0)) (Int.toNat ((x11.getD (Int.toNat x1) []).getD 13 0)) (Int.toNat ((x11.getD (Int.toNat x1) []).getD 14 0)) (Int.toNat ((x11.getD (Int.toNat x1) []).getD 15 0)) (Int.toNat ((x11.getD (Int.toNat x1) []).getD 16 0)) (Int.toNat ((x11.getD (Int.toNat x1) []).getD 17 0)))
 (cond (decide ((x1 : Int) < x0))
 (cond ((decide ((0 : Int) ≤ x1)) && (Nat.blt (Int.toNat x1) x11.length))
  (cond (!(flt .f32 c51 1015021568))
   (cond (Nat.ble ((x10.length + 1) * 73) 140737488355328)
    (cond (Nat.beq ((ih x0 (IntKind.i64.wrap (x1 + 1)) x2 x3 x4 x5 x6 x7 x8 x9 (((x10.drop 0).take x10.length) ++ ([[(((Int.toNat ((x11.getD (Int.toNat x1) []).getD 0 0)) : Nat) : Int), (((Int.toNat ((x11.getD (Int.toNat x1) []).getD 1 0)) : Nat) : Int), (((Int.toNat ((x11.getD (Int.toNat x1) []).getD 2 0)) : Nat) : Int), (((Int.toNat ((x11.getD (Int.toNat x1) []).getD 3 0)) : Nat) : Int), (((Int.toNat ((x11.getD (Int.toNat x1) []).getD 4 0)) : Nat) : Int), (((Int.toNat ((x11.getD (Int.toNat x1) []).getD 5 0)) : Nat) : Int), (((Int.toNat ((x11.getD (Int.toNat x1) []).getD 6 0)) : Nat) : Int), (((Int.toNat ((x11.getD (Int.toNat x1) []).getD 7 0)) : Nat) : Int), (((Int.toNat ((x11.getD (Int.toNat x1) []).getD 8 0)) : Nat) : Int), (((Int.toNat ((x11.getD (Int.toNat x1) []).getD 9 0)) : Nat) : Int), (((Int.toNat ((x11.getD (Int.toNat x1) []).getD 10 0)) : Nat) : Int), (((Int.toNat ((x11.getD (Int.toNat x1) []).getD 11 0)) : Nat) : Int), (((Int.toNat ((x11.getD (Int.toNat x1) []).getD 12 0)) : Nat) : Int), (((Int.toNat ((x11.getD (Int.toNat x1) []).getD 13 0)) : Nat) : Int), (((Int.toNat ((x11.getD (Int.toNat x1) []).getD 14 0)) : Nat) : Int), (((Int.toNat ((x11.getD (Int.toNat x1) []).getD 15 0)) : Nat) : Int), (((Int.toNat ((x11.getD (Int.toNat x1) []).getD 16 0)) : Nat) : Int), (((Int.toNat ((x11.getD (Int.toNat x1) []).getD 17 0)) : Nat) : Int)]] : List (List Int))) x11).1) 0)
     (some (.exit 0, frameOf 41 [1, 2, 5] [.pointer (some ⟨0, 0, some 0⟩), .pointer (some ⟨1, 0, some 0⟩), wsl 4], ⟨[⟨true, (some (.cells [wsl 3, .float .f32 x2, .float .f32 x3, .int .i8 x4, .int .i64 x5, .float .f32 x6]))⟩, ⟨true, (some (.cells [.slice none 0 0, .float .f32 x7, .float .f32 x8, .int .i8 0, .int .i64 0, .float .f32 x9]))⟩, ⟨true, none⟩, ⟨true, (some (.tab sc0 x11))⟩, ⟨true, (some (.tab sc0 ((ih x0 (IntKind.i64.wrap (x1 + 1)) x2 x3 x4 x5 x6 x7 x8 x9 (((x10.drop 0).take x10.length) ++ ([[(((Int.toNat ((x11.getD (Int.toNat x1) []).getD 0 0)) : Nat) : Int), (((Int.toNat ((x11.getD (Int.toNat x1) []).getD 1 0)) : Nat) : Int), (((Int.toNat ((x11.getD (Int.toNat x1) []).getD 2 0)) : Nat) : Int), (((Int.toNat ((x11.getD (Int.toNat x1) []).getD 3 0)) : Nat) : Int), (((Int.toNat ((x11.getD (Int.toNat x1) []).getD 4 0)) : Nat) : Int), (((Int.toNat ((x11.getD (Int.toNat x1) []).getD 5 0)) : Nat) : Int), (((Int.toNat ((x11.getD (Int.toNat x1) []).getD 6 0)) : Nat) : Int), (((Int.toNat ((x11.getD (Int.toNat x1) []).getD 7 0)) : Nat) : Int), (((Int.toNat ((x11.getD (Int.toNat x1) []).getD 8 0)) : Nat) : Int), (((Int.toNat ((x11.getD (Int.toNat x1) []).getD 9 0)) : Nat) : Int), (((Int.toNat ((x11.getD (Int.toNat x1) []).getD 10 0)) : Nat) : Int), (((Int.toNat ((x11.getD (Int.toNat x1) []).getD 11 0)) : Nat) : Int), (((Int.toNat ((x11.getD (Int.toNat x1) []).getD 12 0)) : Nat) : Int), (((Int.toNat ((x11.getD (Int.toNat x1) []).getD 13 0)) : Nat) : Int), (((Int.toNat ((x11.getD (Int.toNat x1) []).getD 14 0)) : Nat) : Int), (((Int.toNat ((x11.getD (Int.toNat x1) []).getD 15 0)) : Nat) : Int), (((Int.toNat ((x11.getD (Int.toNat x1) []).getD 16 0)) : Nat) : Int), (((Int.toNat ((x11.getD (Int.toNat x1) []).getD 17 0)) : Nat) : Int)]] : List (List Int))) x11).2)))⟩], 4, [2]⟩))
     (cond (Nat.beq ((ih x0 (IntKind.i64.wrap (x1 + 1)) x2 x3 x4 x5 x6 x7 x8 x9 (((x10.drop 0).take x10.length) ++ ([[(((Int.toNat ((x11.getD (Int.toNat x1) []).getD 0 0)) : Nat) : Int), (((Int.toNat ((x11.getD (Int.toNat x1) []).getD 1 0)) : Nat) : Int), (((Int.toNat ((x11.getD (Int.toNat x1) []).getD 2 0)) : Nat) : Int), (((Int.toNat ((x11.getD (Int.toNat x1) []).getD 3 0)) : Nat) : Int), (((Int.toNat ((x11.getD (Int.toNat x1) []).getD 4 0)) : Nat) : Int), (((Int.toNat ((x11.getD (Int.toNat x1) []).getD 5 0)) : Nat) : Int), (((Int.toNat ((x11.getD (Int.toNat x1) []).getD 6 0)) : Nat) : Int), (((Int.toNat ((x11.getD (Int.toNat x1) []).getD 7 0)) : Nat) : Int), (((Int.toNat ((x11.getD (Int.toNat x1) []).getD 8 0)) : Nat) : Int), (((Int.toNat ((x11.getD (Int.toNat x1) []).getD 9 0)) : Nat) : Int), (((Int.toNat ((x11.getD (Int.toNat x1) []).getD 10 0)) : Nat) : Int), (((Int.toNat ((x11.getD (Int.toNat x1) []).getD 11 0)) : Nat) : Int), (((Int.toNat ((x11.getD (Int.toNat x1) []).getD 12 0)) : Nat) : Int), (((Int.toNat ((x11.getD (Int.toNat x1) []).getD 13 0)) : Nat) : Int), (((Int.toNat ((x11.getD (Int.toNat x1) []).getD 14 0)) : Nat) : Int), (((Int.toNat ((x11.getD (Int.toNat x1) []).getD 15 0)) : Nat) : Int), (((Int.toNat ((x11.getD (Int.toNat x1) []).getD 16 0)) : Nat) : Int), (((Int.toNat ((x11.getD (Int.toNat x1) []).getD 17 0)) : Nat) : Int)]] : List (List Int))) x11).1) 1)
      (some (.exit 0, frameOf 41 [1, 2, 5] [.pointer (some ⟨0, 0, some 0⟩), .pointer (some ⟨1, 0, some 0⟩), wsl 4], ⟨[⟨true, (some (.cells [wsl 3, .float .f32 x2, .float .f32 x3, .int .i8 x4, .int .i64 x5, .float .f32 x6]))⟩, ⟨true, (some (.cells [.slice none 0 0, .float .f32 x7, .float .f32 x8, .int .i8 0, .int .i64 0, .float .f32 x9]))⟩, ⟨true, none⟩, ⟨true, (some (.tab sc0 x11))⟩, ⟨true, (some (.tab sc0 (((x10.drop 0).take x10.length) ++ ([[(((Int.toNat ((x11.getD (Int.toNat x1) []).getD 0 0)) : Nat) : Int), (((Int.toNat ((x11.getD (Int.toNat x1) []).getD 1 0)) : Nat) : Int), (((Int.toNat ((x11.getD (Int.toNat x1) []).getD 2 0)) : Nat) : Int), (((Int.toNat ((x11.getD (Int.toNat x1) []).getD 3 0)) : Nat) : Int), (((Int.toNat ((x11.getD (Int.toNat x1) []).getD 4 0)) : Nat) : Int), (((Int.toNat ((x11.getD (Int.toNat x1) []).getD 5 0)) : Nat) : Int), (((Int.toNat ((x11.getD (Int.toNat x1) []).getD 6 0)) : Nat) : Int), (((Int.toNat ((x11.getD (Int.toNat x1) []).getD 7 0)) : Nat) : Int), (((Int.toNat ((x11.getD (Int.toNat x1) []).getD 8 0)) : Nat) : Int), (((Int.toNat ((x11.getD (Int.toNat x1) []).getD 9 0)) : Nat) : Int), (((Int.toNat ((x11.getD (Int.toNat x1) []).getD 10 0)) : Nat) : Int), (((Int.toNat ((x11.getD (Int.toNat x1) []).getD 11 0)) : Nat) : Int), (((Int.toNat ((x11.getD (Int.toNat x1) []).getD 12 0)) : Nat) : Int), (((Int.toNat ((x11.getD (Int.toNat x1) []).getD 13 0)) : Nat) : Int), (((Int.toNat ((x11.getD (Int.toNat x1) []).getD 14 0)) : Nat) : Int), (((Int.toNat ((x11.getD (Int.toNat x1) []).getD 15 0)) : Nat) : Int), (((Int.toNat ((x11.getD (Int.toNat x1) []).getD 16 0)) : Nat) : Int), (((Int.toNat ((x11.getD (Int.toNat x1) []).getD 17 0)) : Nat) : Int)]] : List (List Int)))))⟩], 4, [2]⟩))
      none))
    none)
   (cond (Nat.beq ((ih x0 (IntKind.i64.wrap (x1 + 1)) x2 x3 x4 x5 x6 x7 x8 x9 x10 x11).1) 0)
    (some (.exit 0, frameOf 41 [1, 2, 5] [.pointer (some ⟨0, 0, some 0⟩), .pointer (some ⟨1, 0, some 0⟩), wsl 4], ⟨[⟨true, (some (.cells [wsl 3, .float .f32 x2, .float .f32 x3, .int .i8 x4, .int .i64 x5, .float .f32 x6]))⟩, ⟨true, (some (.cells [.slice none 0 0, .float .f32 x7, .float .f32 x8, .int .i8 0, .int .i64 0, .float .f32 x9]))⟩, ⟨true, none⟩, ⟨true, (some (.tab sc0 x11))⟩, ⟨true, (some (.tab sc0 ((ih x0 (IntKind.i64.wrap (x1 + 1)) x2 x3 x4 x5 x6 x7 x8 x9 x10 x11).2)))⟩], 4, [2]⟩))
    (cond (Nat.beq ((ih x0 (IntKind.i64.wrap (x1 + 1)) x2 x3 x4 x5 x6 x7 x8 x9 x10 x11).1) 1)
     (some (.exit 0, frameOf 41 [1, 2, 5] [.pointer (some ⟨0, 0, some 0⟩), .pointer (some ⟨1, 0, some 0⟩), wsl 2], ⟨[⟨true, (some (.cells [wsl 3, .float .f32 x2, .float .f32 x3, .int .i8 x4, .int .i64 x5, .float .f32 x6]))⟩, ⟨true, (some (.cells [.slice none 0 0, .float .f32 x7, .float .f32 x8, .int .i8 0, .int .i64 0, .float .f32 x9]))⟩, ⟨true, (some (.tab sc0 x10))⟩, ⟨true, (some (.tab sc0 x11))⟩], 4, [2]⟩))
     none)))
  none)
 (some (.exit 0, frameOf 41 [1, 2, 5] [.pointer (some ⟨0, 0, some 0⟩), .pointer (some ⟨1, 0, some 0⟩), wsl 2], ⟨[⟨true, (some (.cells [wsl 3, .float .f32 x2, .float .f32 x3, .int .i8 x4, .int .i64 x5, .float .f32 x6]))⟩, ⟨true, (some (.cells [.slice none 0 0, .float .f32 x7, .float .f32 x8, .int .i8 0, .int .i64 0, .float .f32 x9]))⟩, ⟨true, (some (.tab sc0 x10))⟩, ⟨true, (some (.tab sc0 x11))⟩], 4, [2]⟩)))
noncomputable def w25l0 (ih : Int → Int → Nat → Nat → Int → Int → Nat → Nat → Nat → Nat → List (List Int) → List (List Int) → (Nat × List (List Int))) (x0 x1 : Int) (x2 x3 : Nat) (x4 x5 : Int) (x6 x7 x8 x9 : Nat) (x10 x11 : List (List Int)) : Option (Fin' × List Value × St) :=
 let c51 := (r60 (Int.toNat ((x11.getD (Int.toNat x1) []).getD 0 0)) (Int.toNat ((x11.getD (Int.toNat x1) []).getD 1 0)) (Int.toNat ((x11.getD (Int.toNat x1) []).getD 2 0)) (Int.toNat ((x11.getD (Int.toNat x1) []).getD 3 0)) (Int.toNat ((x11.getD (Int.toNat x1) []).getD 4 0)) (Int.toNat ((x11.getD (Int.toNat x1) []).getD 5 0)) (Int.toNat ((x11.getD (Int.toNat x1) []).getD 6 0)) (Int.toNat ((x11.getD (Int.toNat x1) []).getD 7 0)) (Int.toNat ((x11.getD (Int.toNat x1) []).getD 8 0)) (Int.toNat ((x11.getD (Int.toNat x1) []).getD 9 0)) (Int.toNat ((x11.getD (Int.toNat x1) []).getD 10 0)) (Int.toNat ((x11.getD (Int.toNat x1) []).getD 11 0)) (Int.toNat ((x11.getD (Int.toNat x1) []).getD 12 0)) (Int.toNat ((x11.getD (Int.toNat x1) []).getD 13 0)) (Int.toNat ((x11.getD (Int.toNat x1) []).getD 14 0)) (Int.toNat ((x11.getD (Int.toNat x1) []).getD 15 0)) (Int.toNat ((x11.getD (Int.toNat x1) []).getD 16 0)) (Int.toNat ((x11.getD (Int.toNat x1) []).getD 17 0)))
 (cond (decide ((x1 : Int) < x0))
 (cond ((decide ((0 : Int) ≤ x1)) && (Nat.blt (Int.toNat x1) x11.length))
  (cond (Nat.blt (Int.toNat x1) x11.length)
   (cond (!(flt .f32 c51 1015021568))
    (cond (Nat.ble ((x10.length + 1) * 73) 140737488355328)
     (cond (Nat.beq ((ih x0 (IntKind.i64.wrap (x1 + 1)) x2 x3 x4 x5 x6 x7 x8 x9 (((x10.drop 0).take x10.length) ++ ([[(((Int.toNat ((x11.getD (Int.toNat x1) []).getD 0 0)) : Nat) : Int), (((Int.toNat ((x11.getD (Int.toNat x1) []).getD 1 0)) : Nat) : Int), (((Int.toNat ((x11.getD (Int.toNat x1) []).getD 2 0)) : Nat) : Int), (((Int.toNat ((x11.getD (Int.toNat x1) []).getD 3 0)) : Nat) : Int), (((Int.toNat ((x11.getD (Int.toNat x1) []).getD 4 0)) : Nat) : Int), (((Int.toNat ((x11.getD (Int.toNat x1) []).getD 5 0)) : Nat) : Int), (((Int.toNat ((x11.getD (Int.toNat x1) []).getD 6 0)) : Nat) : Int), (((Int.toNat ((x11.getD (Int.toNat x1) []).getD 7 0)) : Nat) : Int), (((Int.toNat ((x11.getD (Int.toNat x1) []).getD 8 0)) : Nat) : Int), (((Int.toNat ((x11.getD (Int.toNat x1) []).getD 9 0)) : Nat) : Int), (((Int.toNat ((x11.getD (Int.toNat x1) []).getD 10 0)) : Nat) : Int), (((Int.toNat ((x11.getD (Int.toNat x1) []).getD 11 0)) : Nat) : Int), (((Int.toNat ((x11.getD (Int.toNat x1) []).getD 12 0)) : Nat) : Int), (((Int.toNat ((x11.getD (Int.toNat x1) []).getD 13 0)) : Nat) : Int), (((Int.toNat ((x11.getD (Int.toNat x1) []).getD 14 0)) : Nat) : Int), (((Int.toNat ((x11.getD (Int.toNat x1) []).getD 15 0)) : Nat) : Int), (((Int.toNat ((x11.getD (Int.toNat x1) []).getD 16 0)) : Nat) : Int), (((Int.toNat ((x11.getD (Int.toNat x1) []).getD 17 0)) : Nat) : Int)]] : List (List Int))) x11).1) 0)
      (some (.exit 0, frameOf 41 [1, 2, 5] [.pointer (some ⟨0, 0, some 0⟩), .pointer (some ⟨1, 0, some 0⟩), wsl 4], ⟨[⟨true, (some (.cells [wsl 3, .float .f32 x2, .float .f32 x3, .int .i8 x4, .int .i64 x5, .float .f32 x6]))⟩, ⟨true, (some (.cells [.slice none 0 0, .float .f32 x7, .float .f32 x8, .int .i8 0, .int .i64 0, .float .f32 x9]))⟩, ⟨true, none⟩, ⟨true, (some (.tab sc0 x11))⟩, ⟨true, (some (.tab sc0 ((ih x0 (IntKind.i64.wrap (x1 + 1)) x2 x3 x4 x5 x6 x7 x8 x9 (((x10.drop 0).take x10.length) ++ ([[(((Int.toNat ((x11.getD (Int.toNat x1) []).getD 0 0)) : Nat) : Int), (((Int.toNat ((x11.getD (Int.toNat x1) []).getD 1 0)) : Nat) : Int), (((Int.toNat ((x11.getD (Int.toNat x1) []).getD 2 0)) : Nat) : Int), (((Int.toNat ((x11.getD (Int.toNat x1) []).getD 3 0)) : Nat) : Int), (((Int.toNat ((x11.getD (Int.toNat x1) []).getD 4 0)) : Nat) : Int), (((Int.toNat ((x11.getD (Int.toNat x1) []).getD 5 0)) : Nat) : Int), (((Int.toNat ((x11.getD (Int.toNat x1) []).getD 6 0)) : Nat) : Int), (((Int.toNat ((x11.getD (Int.toNat x1) []).getD 7 0)) : Nat) : Int), (((Int.toNat ((x11.getD (Int.toNat x1) []).getD 8 0)) : Nat) : Int), (((Int.toNat ((x11.getD (Int.toNat x1) []).getD 9 0)) : Nat) : Int), (((Int.toNat ((x11.getD (Int.toNat x1) []).getD 10 0)) : Nat) : Int), (((Int.toNat ((x11.getD (Int.toNat x1) []).getD 11 0)) : Nat) : Int), (((Int.toNat ((x11.getD (Int.toNat x1) []).getD 12 0)) : Nat) : Int), (((Int.toNat ((x11.getD (Int.toNat x1) []).getD 13 0)) : Nat) : Int), (((Int.toNat ((x11.getD (Int.toNat x1) []).getD 14 0)) : Nat) : Int), (((Int.toNat ((x11.getD (Int.toNat x1) []).getD 15 0)) : Nat) : Int), (((Int.toNat ((x11.getD (Int.toNat x1) []).getD 16 0)) : Nat) : Int), (((Int.toNat ((x11.getD (Int.toNat x1) []).getD 17 0)) : Nat) : Int)]] : List (List Int))) x11).2)))⟩], 4, [2]⟩))
      (cond (Nat.beq ((ih x0 (IntKind.i64.wrap (x1 + 1)) x2 x3 x4 x5 x6 x7 x8 x9 (((x10.drop 0).take x10.length) ++ ([[(((Int.toNat ((x11.getD (Int.toNat x1) []).getD 0 0)) : Nat) : Int), (((Int.toNat ((x11.getD (Int.toNat x1) []).getD 1 0)) : Nat) : Int), (((Int.toNat ((x11.getD (Int.toNat x1) []).getD 2 0)) : Nat) : Int), (((Int.toNat ((x11.getD (Int.toNat x1) []).getD 3 0)) : Nat) : Int), (((Int.toNat ((x11.getD (Int.toNat x1) []).getD 4 0)) : Nat) : Int), (((Int.toNat ((x11.getD (Int.toNat x1) []).getD 5 0)) : Nat) : Int), (((Int.toNat ((x11.getD (Int.toNat x1) []).getD 6 0)) : Nat) : Int), (((Int.toNat ((x11.getD (Int.toNat x1) []).getD 7 0)) : Nat) : Int), (((Int.toNat ((x11.getD (Int.toNat x1) []).getD 8 0)) : Nat) : Int), (((Int.toNat ((x11.getD (Int.toNat x1) []).getD 9 0)) : Nat) : Int), (((Int.toNat ((x11.getD (Int.toNat x1) []).getD 10 0)) : Nat) : Int), (((Int.toNat ((x11.getD (Int.toNat x1) []).getD 11 0)) : Nat) : Int), (((Int.toNat ((x11.getD (Int.toNat x1) []).getD 12 0)) : Nat) : Int), (((Int.toNat ((x11.getD (Int.toNat x1) []).getD 13 0)) : Nat) : Int), (((Int.toNat ((x11.getD (Int.toNat x1) []).getD 14 0)) : Nat) : Int), (((Int.toNat ((x11.getD (Int.toNat x1) []).getD 15 0)) : Nat) : Int), (((Int.toNat ((x11.getD (Int.toNat x1) []).getD 16 0)) : Nat) : Int), (((Int.toNat ((x11.getD (Int.toNat x1) []).getD 17 0)) : Nat) : Int)]] : List (List Int))) x11).1) 1)
       (some (.exit 0, frameOf 41 [1, 2, 5] [.pointer (some ⟨0, 0, some 0⟩), .pointer (some ⟨1, 0, some 0⟩), wsl 4], ⟨[⟨true, (some (.cells [wsl 3, .float .f32 x2, .float .f32 x3, .int .i8 x4, .int .i64 x5, .float .f32 x6]))⟩, ⟨true, (some (.cells [.slice none 0 0, .float .f32 x7, .float .f32 x8, .int .i8 0, .int .i64 0, .float .f32 x9]))⟩, ⟨true, none⟩, ⟨true, (some (.tab sc0 x11))⟩, ⟨true, (some (.tab sc0 (((x10.drop 0).take x10.length) ++ ([[(((Int.toNat ((x11.getD (Int.toNat x1) []).getD 0 0)) : Nat) : Int), (((Int.toNat ((x11.getD (Int.toNat x1) []).getD 1 0)) : Nat) : Int), (((Int.toNat ((x11.getD (Int.toNat x1) []).getD 2 0)) : Nat) : Int), (((Int.toNat ((x11.getD (Int.toNat x1) []).getD 3 0)) : Nat) : Int), (((Int.toNat ((x11.getD (Int.toNat x1) []).getD 4 0)) : Nat) : Int), (((Int.toNat ((x11.getD (Int.toNat x1) []).getD 5 0)) : Nat) : Int), (((Int.toNat ((x11.getD (Int.toNat x1) []).getD 6 0)) : Nat) : Int), (((Int.toNat ((x11.getD (Int.toNat x1) []).getD 7 0)) : Nat) : Int), (((Int.toNat ((x11.getD (Int.toNat x1) []).getD 8 0)) : Nat) : Int), (((Int.toNat ((x11.getD (Int.toNat x1) []).getD 9 0)) : Nat) : Int), (((Int.toNat ((x11.getD (Int.toNat x1) []).getD 10 0)) : Nat) : Int), (((Int.toNat ((x11.getD (Int.toNat x1) []).getD 11 0)) : Nat) : Int), (((Int.toNat ((x11.getD (Int.toNat x1) []).getD 12 0)) : Nat) : Int), (((Int.toNat ((x11.getD (Int.toNat x1) []).getD 13 0)) : Nat) : Int), (((Int.toNat ((x11.getD (Int.toNat x1) []).getD 14 0)) : Nat) : Int), (((Int.toNat ((x11.getD (Int.toNat x1) []).getD 15 0)) : Nat) : Int), (((Int.toNat ((x11.getD (Int.toNat x1) []).getD 16 0)) : Nat) : Int), (((Int.toNat ((x11.getD (Int.toNat x1) []).getD 17 0)) : Nat) : Int)]] : List (List Int)))))⟩], 4, [2]⟩))
       none))
     none)
    (cond (Nat.beq ((ih x0 (IntKind.i64.wrap (x1 + 1)) x2 x3 x4 x5 x6 x7 x8 x9 x10 x11).1) 0)
     (some (.exit 0, frameOf 41 [1, 2, 5] [.pointer (some ⟨0, 0, some 0⟩), .pointer (some ⟨1, 0, some 0⟩), wsl 4], ⟨[⟨true, (some (.cells [wsl 3, .float .f32 x2, .float .f32 x3, .int .i8 x4, .int .i64 x5, .float .f32 x6]))⟩, ⟨true, (some (.cells [.slice none 0 0, .float .f32 x7, .float .f32 x8, .int .i8 0, .int .i64 0, .float .f32 x9]))⟩, ⟨true, none⟩, ⟨true, (some (.tab sc0 x11))⟩, ⟨true, (some (.tab sc0 ((ih x0 (IntKind.i64.wrap (x1 + 1)) x2 x3 x4 x5 x6 x7 x8 x9 x10 x11).2)))⟩], 4, [2]⟩))
     (cond (Nat.beq ((ih x0 (IntKind.i64.wrap (x1 + 1)) x2 x3 x4 x5 x6 x7 x8 x9 x10 x11).1) 1)
      (some (.exit 0, frameOf 41 [1, 2, 5] [.pointer (some ⟨0, 0, some 0⟩), .pointer (some ⟨1, 0, some 0⟩), wsl 2], ⟨[⟨true, (some (.cells [wsl 3, .float .f32 x2, .float .f32 x3, .int .i8 x4, .int .i64 x5, .float .f32 x6]))⟩, ⟨true, (some (.cells [.slice none 0 0, .float .f32 x7, .float .f32 x8, .int .i8 0, .int .i64 0, .float .f32 x9]))⟩, ⟨true, (some (.tab sc0 x10))⟩, ⟨true, (some (.tab sc0 x11))⟩], 4, [2]⟩))
      none)))
   none)
  none)
 (some (.exit 0, frameOf 41 [1, 2, 5] [.pointer (some ⟨0, 0, some 0⟩), .pointer (some ⟨1, 0, some 0⟩), wsl 2], ⟨[⟨true, (some (.cells [wsl 3, .float .f32 x2, .float .f32 x3, .int .i8 x4, .int .i64 x5, .float .f32 x6]))⟩, ⟨true, (some (.cells [.slice none 0 0, .float .f32 x7, .float .f32 x8, .int .i8 0, .int .i64 0, .float .f32 x9]))⟩, ⟨true, (some (.tab sc0 x10))⟩, ⟨true, (some (.tab sc0 x11))⟩], 4, [2]⟩)))
set_option maxRecDepth 100000 in
set_option maxHeartbeats 4000000 in
theorem e25l0 (m : Nat) (x0 x1 : Int) (x2 x3 : Nat) (x4 x5 : Int) (x6 x7 x8 x9 : Nat) (x10 x11 : List (List Int)) : evC Try.prog ext T26 noL 200 (loopN Try.f25 0) (loopTail [1, 2, 5, 15, 16, 17] [1, 2, 5] [2] (sumK 41 [1, 2, 5, 15, 16, 17] [1, 2, 5] (q25l0 m))) (frameOf 41 [1, 2, 5, 15, 16, 17] [.pointer (some ⟨0, 0, some 0⟩), .pointer (some ⟨1, 0, some 0⟩), wsl 2, wsl 3, .int .i64 x0, .int .i64 x1]) ⟨[⟨true, (some (.cells [wsl 3, .float .f32 x2, .float .f32 x3, .int .i8 x4, .int .i64 x5, .float .f32 x6]))⟩, ⟨true, (some (.cells [.slice none 0 0, .float .f32 x7, .float .f32 x8, .int .i8 0, .int .i64 0, .float .f32 x9]))⟩, ⟨true, (some (.tab sc0 x10))⟩, ⟨true, (some (.tab sc0 x11))⟩], 4, []⟩ = firstT ([((Nat.beq ((r25l0 (m + 1) x0 x1 x2 x3 x4 x5 x6 x7 x8 x9 x10 x11).1) 0), .exit 0, [.pointer (some ⟨0, 0, some 0⟩), .pointer (some ⟨1, 0, some 0⟩), wsl 4], ⟨[⟨true, (some (.cells [wsl 3, .float .f32 x2, .float .f32 x3, .int .i8 x4, .int .i64 x5, .float .f32 x6]))⟩, ⟨true, (some (.cells [.slice none 0 0, .float .f32 x7, .float .f32 x8, .int .i8 0, .int .i64 0, .float .f32 x9]))⟩, ⟨true, none⟩, ⟨true, (some (.tab sc0 x11))⟩, ⟨true, (some (.tab sc0 ((r25l0 (m + 1) x0 x1 x2 x3 x4 x5 x6 x7 x8 x9 x10 x11).2)))⟩], 4, [2]⟩), ((Nat.beq ((r25l0 (m + 1) x0 x1 x2 x3 x4 x5 x6 x7 x8 x9 x10 x11).1) 1), .exit 0, [.pointer (some ⟨0, 0, some 0⟩), .pointer (some ⟨1, 0, some 0⟩), wsl 2], ⟨[⟨true, (some (.cells [wsl 3, .float .f32 x2, .float .f32 x3, .int .i8 x4, .int .i64 x5, .float .f32 x6]))⟩, ⟨true, (some (.cells [.slice none 0 0, .float .f32 x7, .float .f32 x8, .int .i8 0, .int .i64 0, .float .f32 x9]))⟩, ⟨true, (some (.tab sc0 x10))⟩, ⟨true, (some (.tab sc0 x11))⟩], 4, [2]⟩)].map fun (b, x) => (b, (x.1, frameOf 41 [1, 2, 5] x.2.1, x.2.2))) :=
 (show evC Try.prog ext T26 noL 200 (loopN Try.f25 0) (loopTail [1, 2, 5, 15, 16, 17] [1, 2, 5] [2] (sumK 41 [1, 2, 5, 15, 16, 17] [1, 2, 5] (q25l0 m))) (frameOf 41 [1, 2, 5, 15, 16, 17] [.pointer (some ⟨0, 0, some 0⟩), .pointer (some ⟨1, 0, some 0⟩), wsl 2, wsl 3, .int .i64 x0, .int .i64 x1]) ⟨[⟨true, (some (.cells [wsl 3, .float .f32 x2, .float .f32 x3, .int .i8 x4, .int .i64 x5, .float .f32 x6]))⟩, ⟨true, (some (.cells [.slice none 0 0, .float .f32 x7, .float .f32 x8, .int .i8 0, .int .i64 0, .float .f32 x9]))⟩, ⟨true, (some (.tab sc0 x10))⟩, ⟨true, (some (.tab sc0 x11))⟩], 4, []⟩ = w25l0 (r25l0 m) x0 x1 x2 x3 x4 x5 x6 x7 x8 x9 x10 x11 from by kernel_rfl).trans
 ((show w25l0 (r25l0 m) x0 x1 x2 x3 x4 x5 x6 x7 x8 x9 x10 x11 = t25l0 (r25l0 m) x0 x1 x2 x3 x4 x5 x6 x7 x8 x9 x10 x11 from (cond_cong _ (fun h0 => (cond_cong _ (fun h1 => (cond_t (ev_and2 h1) rfl)) (fun h1 => rfl))) (fun h0 => rfl))).trans
 (show t25l0 (r25l0 m) x0 x1 x2 x3 x4 x5 x6 x7 x8 x9 x10 x11 = a25l0 x0 x1 x2 x3 x4 x5 x6 x7 x8 x9 x10 x11 (r25l0 (m + 1) x0 x1 x2 x3 x4 x5 x6 x7 x8 x9 x10 x11) from (cond_app (a25l0 x0 x1 x2 x3 x4 x5 x6 x7 x8 x9 x10 x11) _ (cond_app (a25l0 x0 x1 x2 x3 x4 x5 x6 x7 x8 x9 x10 x11) _ (cond_app (a25l0 x0 x1 x2 x3 x4 x5 x6 x7 x8 x9 x10 x11) _ (cond_app (a25l0 x0 x1 x2 x3 x4 x5 x6 x7 x8 x9 x10 x11) _ (cond_app (a25l0 x0 x1 x2 x3 x4 x5 x6 x7 x8 x9 x10 x11) _ rfl (cond_app (a25l0 x0 x1 x2 x3 x4 x5 x6 x7 x8 x9 x10 x11) _ rfl rfl)) rfl) (v25l0 x0 x1 x2 x3 x4 x5 x6 x7 x8 x9 x10 x11 ((r25l0 m) x0 (IntKind.i64.wrap (x1 + 1)) x2 x3 x4 x5 x6 x7 x8 x9 x10 x11))) rfl) rfl)))
set_option maxRecDepth 100000 in
set_option maxHeartbeats 4000000 in
theorem qm25l0 : ∀ m, SumKOk Try.prog (loopN Try.f25 0) 41 [1, 2, 5, 15, 16, 17] [1, 2, 5] (q25l0 m) := by
  intro m
  induction m with
  | zero =>
    intro vals s x h1 h2 h3
    unfold q25l0 at h3; split at h3
    · rename_i h; split at h3
      · rename_i hc; obtain ⟨rfl, rfl, rfl, rfl, rfl, rfl, rfl, rfl, rfl, rfl, rfl, rfl, rfl⟩ := hc; exact absurd h3 (by simp [r25l0, firstT, Nat.beq])
      · exact noQ_ok _ _ _ h1 h2 h3
    · exact noQ_ok _ _ _ h1 h2 h3
  | succ m ih =>
    intro vals s x h1 h2 h3
    unfold q25l0 at h3; split at h3
    · rename_i h; split at h3
      · rename_i hc; obtain ⟨rfl, rfl, rfl, rfl, rfl, rfl, rfl, rfl, rfl, rfl, rfl, rfl, rfl⟩ := hc; exact sum_step ok26 extOk mixed ((lfOkF_no _ _).inner (by kernel_rfl)) ih h1 h2 h (e25l0 m _ _ _ _ _ _ _ _ _ _ _ _) rfl h3
      · exact noQ_ok _ _ _ h1 h2 h3
    · exact noQ_ok _ _ _ h1 h2 h3
noncomputable def Q25l0 : SumK := fun vals s => q25l0 (fuelOf vals s.h) vals s
theorem qok25l0 : SumKOk Try.prog (loopN Try.f25 0) 41 [1, 2, 5, 15, 16, 17] [1, 2, 5] Q25l0 := fuel_ok qm25l0 fuelOf
noncomputable def L25_1 : LoopT := addL noL 6 [1, 2, 5, 15, 16, 17] (sumK 41 [1, 2, 5, 15, 16, 17] [1, 2, 5] Q25l0)
theorem lok25_1 : LfOkF Try.prog L25_1 Try.f25 := lfOkF_add (lfOkF_no _ _) qok25l0 (by kernel_rfl) (by kernel_rfl) (by kernel_rfl)

/-- impl.DropSpent -/
noncomputable def r25 (x0 x1 : Nat) (x2 x3 : Int) (x4 : Nat) (x5 : List (List Int)) : Nat × Int × List (List Int) :=
 cond (Nat.beq ((r64 x0 x1 x2 x3 x4 x5).1) 0)
  (cond (!((r64 x0 x1 x2 x3 x4 x5).2))
   (0, 0, [])
   (cond (Nat.beq ((r25l0 (1000 + x5.length + 0) ((x5.length : Nat) : Int) 0 x0 x1 x2 x3 x4 0 0 0 ([] : List (List Int)) x5).1) 0)
    (1, (IntKind.i64.wrap (((x5.length : Nat) : Int) - ((((r25l0 (1000 + x5.length + 0) ((x5.length : Nat) : Int) 0 x0 x1 x2 x3 x4 0 0 0 ([] : List (List Int)) x5).2).length : Nat) : Int))), ((r25l0 (1000 + x5.length + 0) ((x5.length : Nat) : Int) 0 x0 x1 x2 x3 x4 0 0 0 ([] : List (List Int)) x5).2))
    (cond (Nat.beq ((r25l0 (1000 + x5.length + 0) ((x5.length : Nat) : Int) 0 x0 x1 x2 x3 x4 0 0 0 ([] : List (List Int)) x5).1) 1)
     (1, (IntKind.i64.wrap (((x5.length : Nat) : Int) - 0)), ([] : List (List Int)))
     (2, 0, []))))
  (2, 0, [])
noncomputable def a25 (x0 x1 : Nat) (x2 x3 : Int) (x4 : Nat) (x5 : List (List Int)) (p : Nat × Int × List (List Int)) : Res := firstT [((Nat.beq (p.1) 0), .tuple #[.agg #[.slice none 0 0, .float .f32 0, .float .f32 0, .int .i8 0, .int .i64 0, .float .f32 0], .int .i64 0, .int .i64 1], ⟨[⟨true, (some (.tab sc0 x5))⟩], 1, []⟩), ((Nat.beq (p.1) 1), .tuple #[.agg #[wsl 1, .float .f32 x0, .float .f32 x1, .int .i8 x2, .int .i64 x3, .float .f32 x4], .int .i64 (p.2.1), .int .i64 0], ⟨[⟨true, (some (.tab sc0 x5))⟩, ⟨true, (some (.tab sc0 (p.2.2)))⟩], 1, []⟩)]
noncomputable def t25 (x0 x1 : Nat) (x2 x3 : Int) (x4 : Nat) (x5 : List (List Int)) : Res :=
 (cond (Nat.beq ((r64 x0 x1 x2 x3 x4 x5).1) 0)
 (cond (!((r64 x0 x1 x2 x3 x4 x5).2))
  (some (.tuple #[.agg #[.slice none 0 0, .float .f32 0, .float .f32 0, .int .i8 0, .int .i64 0, .float .f32 0], .int .i64 0, .int .i64 1], ⟨[⟨true, (some (.tab sc0 x5))⟩], 1, []⟩))
  (cond (Nat.beq ((r25l0 (1000 + x5.length + 0) ((x5.length : Nat) : Int) 0 x0 x1 x2 x3 x4 0 0 0 ([] : List (List Int)) x5).1) 0)
   (some (.tuple #[.agg #[wsl 1, .float .f32 x0, .float .f32 x1, .int .i8 x2, .int .i64 x3, .float .f32 x4], .int .i64 (IntKind.i64.wrap (((x5.length : Nat) : Int) - ((((r25l0 (1000 + x5.length + 0) ((x5.length : Nat) : Int) 0 x0 x1 x2 x3 x4 0 0 0 ([] : List (List Int)) x5).2).length : Nat) : Int))), .int .i64 0], ⟨[⟨true, (some (.tab sc0 x5))⟩, ⟨true, (some (.tab sc0 ((r25l0 (1000 + x5.length + 0) ((x5.length : Nat) : Int) 0 x0 x1 x2 x3 x4 0 0 0 ([] : List (List Int)) x5).2)))⟩], 1, []⟩))
   (cond (Nat.beq ((r25l0 (1000 + x5.length + 0) ((x5.length : Nat) : Int) 0 x0 x1 x2 x3 x4 0 0 0 ([] : List (List Int)) x5).1) 1)
    (some (.tuple #[.agg #[wsl 1, .float .f32 x0, .float .f32 x1, .int .i8 x2, .int .i64 x3, .float .f32 x4], .int .i64 (IntKind.i64.wrap (((x5.length : Nat) : Int) - 0)), .int .i64 0], ⟨[⟨true, (some (.tab sc0 x5))⟩, ⟨true, (some (.tab sc0 ([] : List (List Int))))⟩], 1, []⟩))
    none)))
 none)
set_option maxRecDepth 100000 in
set_option maxHeartbeats 4000000 in
theorem e25 (x0 x1 : Nat) (x2 x3 : Int) (x4 : Nat) (x5 : List (List Int)) : evFn Try.prog ext T26 L25_1 200 Try.f25 [.agg #[wsl 0, .float .f32 x0, .float .f32 x1, .int .i8 x2, .int .i64 x3, .float .f32 x4]] ⟨[⟨true, (some (.tab sc0 x5))⟩], 1, []⟩ = firstT [((Nat.beq ((r25 x0 x1 x2 x3 x4 x5).1) 0), .tuple #[.agg #[.slice none 0 0, .float .f32 0, .float .f32 0, .int .i8 0, .int .i64 0, .float .f32 0], .int .i64 0, .int .i64 1], ⟨[⟨true, (some (.tab sc0 x5))⟩], 1, []⟩), ((Nat.beq ((r25 x0 x1 x2 x3 x4 x5).1) 1), .tuple #[.agg #[wsl 1, .float .f32 x0, .float .f32 x1, .int .i8 x2, .int .i64 x3, .float .f32 x4], .int .i64 ((r25 x0 x1 x2 x3 x4 x5).2.1), .int .i64 0], ⟨[⟨true, (some (.tab sc0 x5))⟩, ⟨true, (some (.tab sc0 ((r25 x0 x1 x2 x3 x4 x5).2.2)))⟩], 1, []⟩)] :=
 (show evFn Try.prog ext T26 L25_1 200 Try.f25 [.agg #[wsl 0, .float .f32 x0, .float .f32 x1, .int .i8 x2, .int .i64 x3, .float .f32 x4]] ⟨[⟨true, (some (.tab sc0 x5))⟩], 1, []⟩ = t25 x0 x1 x2 x3 x4 x5 from by kernel_rfl).trans
 (show t25 x0 x1 x2 x3 x4 x5 = a25 x0 x1 x2 x3 x4 x5 (r25 x0 x1 x2 x3 x4 x5) from (cond_app (a25 x0 x1 x2 x3 x4 x5) _ (cond_app (a25 x0 x1 x2 x3 x4 x5) _ rfl (cond_app (a25 x0 x1 x2 x3 x4 x5) _ rfl (cond_app (a25 x0 x1 x2 x3 x4 x5) _ rfl rfl))) rfl))
noncomputable def s25 (args : List Value) (s : St) : List (Bool × Value × St) :=
 match args, s.h with
 | [.agg ⟨[.iface f0 .nilIface, .float .f32 x0, .float .f32 x1, .int .i8 x2, .int .i64 x3, .float .f32 x4]⟩], [⟨true, some (.tab [.fl .f32, .fl .f32, .fl .f32, .fl .f32, .fl .f32, .fl .f32, .fl .f32, .fl .f32, .fl .f32, .fl .f32, .fl .f32, .fl .f32, .fl .f32, .fl .f32, .fl .f32, .fl .f32, .fl .f32, .fl .f32] x5)⟩] => if f0 = 0 then [((Nat.beq ((r25 x0 x1 x2 x3 x4 x5).1) 0), .tuple #[.agg #[.slice none 0 0, .float .f32 0, .float .f32 0, .int .i8 0, .int .i64 0, .float .f32 0], .int .i64 0, .int .i64 1], ⟨[⟨true, (some (.tab sc0 x5))⟩], 1, []⟩), ((Nat.beq ((r25 x0 x1 x2 x3 x4 x5).1) 1), .tuple #[.agg #[wsl 1, .float .f32 x0, .float .f32 x1, .int .i8 x2, .int .i64 x3, .float .f32 x4], .int .i64 ((r25 x0 x1 x2 x3 x4 x5).2.1), .int .i64 0], ⟨[⟨true, (some (.tab sc0 x5))⟩, ⟨true, (some (.tab sc0 ((r25 x0 x1 x2 x3 x4 x5).2.2)))⟩], 1, []⟩)] else T26 25 args s
 | _, _ => T26 25 args s
noncomputable def T27 : CallF := addF T26 25 s25
set_option maxRecDepth 100000 in
set_option maxHeartbeats 4000000 in
theorem ok27 : CfOk Try.prog T27 := by
  refine cfOk_add ok26 fun args s r s' h1 h2 h3 => ?_
  unfold s25 at h3; split at h3
  · rename_i h; split at h3
    · rename_i hc; obtain ⟨rfl⟩ := hc; exact callOk ok26 Try.func25 h1 h2 h lok25_1.body (e25 _ _ _ _ _ _) rfl h3
    · exact ok26 _ _ _ _ _ h1 h2 h3
  · exact ok26 _ _ _ _ _ h1 h2 h3

/-- laws.eqWoodS, loop 0 -/
noncomputable def r66l0 : Unit :=
 ()
noncomputable def a66l0 (p : Unit) : Option (Fin' × List Value × St) := firstT ([(true, .exit 0, [anyV], st0)].map fun (b, x) => (b, (x.1, frameOf 27 [4] x.2.1, x.2.2)))
noncomputable def t66l0 : Option (Fin' × List Value × St) :=
 (some (.exit 0, frameOf 27 [4] [anyV], st0))
set_option maxRecDepth 100000 in
set_option maxHeartbeats 4000000 in
theorem e66l0 : evC Try.prog ext T27 noL 200 (loopN Try.f66 0) (loopTail [0, 1, 5] [4] [] (sumK 27 [0, 1, 5] [4] noQ)) (frameOf 27 [0, 1, 5] [.slice none 0 0, .slice none 0 0, .int .i64 0]) ⟨[], 0, []⟩ = firstT ([(true, .exit 0, [anyV], st0)].map fun (b, x) => (b, (x.1, frameOf 27 [4] x.2.1, x.2.2))) :=
 (show evC Try.prog ext T27 noL 200 (loopN Try.f66 0) (loopTail [0, 1, 5] [4] [] (sumK 27 [0, 1, 5] [4] noQ)) (frameOf 27 [0, 1, 5] [.slice none 0 0, .slice none 0 0, .int .i64 0]) ⟨[], 0, []⟩ = t66l0 from by kernel_rfl).trans
 (show t66l0 = a66l0 r66l0 from rfl)
noncomputable def Q66l0 : SumK := fun vals s =>
 match vals, s.h with
 | [.slice none f0 f1, .slice none f2 f3, .int .i64 f4], [] => if f0 = 0 ∧ f1 = 0 ∧ f2 = 0 ∧ f3 = 0 ∧ f4 = 0 then [(true, .exit 0, [anyV], st0)] else noQ vals s
 | _, _ => noQ vals s
set_option maxRecDepth 100000 in
set_option maxHeartbeats 4000000 in
theorem qok66l0 : SumKOk Try.prog (loopN Try.f66 0) 27 [0, 1, 5] [4] Q66l0 := by
  intro vals s x h1 h2 h3
  unfold Q66l0 at h3; split at h3
  · rename_i h; split at h3
    · rename_i hc; obtain ⟨rfl, rfl, rfl, rfl, rfl⟩ := hc; exact sum_step ok27 extOk mixed ((lfOkF_no _ _).inner (by kernel_rfl)) noQ_ok h1 h2 h (e66l0) rfl h3
    · exact noQ_ok _ _ _ h1 h2 h3
  · exact noQ_ok _ _ _ h1 h2 h3
noncomputable def L66_1 : LoopT := addL noL 5 [0, 1, 5] (sumK 27 [0, 1, 5] [4] Q66l0)
theorem lok66_1 : LfOkF Try.prog L66_1 Try.f66 := lfOkF_add (lfOkF_no _ _) qok66l0 (by kernel_rfl) (by kernel_rfl) (by kernel_rfl)

/-- laws.eqWoodS -/
noncomputable def r66 : Unit :=
 ()
noncomputable def a66 (p : Unit) : Res := firstT [(true, .bool true, st0)]
noncomputable def t66 : Res :=
 (some (.bool true, st0))
set_option maxRecDepth 100000 in
set_option maxHeartbeats 4000000 in
theorem e66 : evFn Try.prog ext T27 L66_1 200 Try.f66 [.slice none 0 0, .slice none 0 0] st0 = firstT [(true, .bool true, st0)] :=
 (show evFn Try.prog ext T27 L66_1 200 Try.f66 [.slice none 0 0, .slice none 0 0] st0 = t66 from by kernel_rfl).trans
 (show t66 = a66 r66 from rfl)
noncomputable def s66 (args : List Value) (s : St) : List (Bool × Value × St) :=
 match args, s.h with
 | [.slice none f0 f1, .slice none f2 f3], [] => if f0 = 0 ∧ f1 = 0 ∧ f2 = 0 ∧ f3 = 0 then [(true, .bool true, st0)] else T27 66 args s
 | _, _ => T27 66 args s
noncomputable def T28 : CallF := addF T27 66 s66
set_option maxRecDepth 100000 in
set_option maxHeartbeats 4000000 in
theorem ok28 : CfOk Try.prog T28 := by
  refine cfOk_add ok27 fun args s r s' h1 h2 h3 => ?_
  unfold s66 at h3; split at h3
  · rename_i h; split at h3
    · rename_i hc; obtain ⟨rfl, rfl, rfl, rfl⟩ := hc; exact callOk ok27 Try.func66 h1 h2 h lok66_1.body (e66) rfl h3
    · exact ok27 _ _ _ _ _ h1 h2 h3
  · exact ok27 _ _ _ _ _ h1 h2 h3

/-- laws.sameFloat -/
noncomputable def r14 (x0 x1 : Nat) : Bool :=
 cond (!feq .f64 x0 x0)
  ((!feq .f64 x1 x1))
  (cond (!feq .f64 x1 x1)
   (false)
   (cond (feq .f64 x0 0)
    (cond (feq .f64 x1 0)
     (((fgt .f64 (fdiv .f64 4607182418800017408 x0) 0) == (fgt .f64 (fdiv .f64 4607182418800017408 x1) 0)))
     ((feq .f64 x0 x1)))
    ((feq .f64 x0 x1))))
noncomputable def a14 (x0 x1 : Nat) (p : Bool) : Res := firstT [(true, .bool p, st0)]
noncomputable def t14 (x0 x1 : Nat) : Res :=
 (cond (!feq .f64 x0 x0)
 (some (.bool (!feq .f64 x1 x1), st0))
 (cond (!feq .f64 x1 x1)
  (some (.bool false, st0))
  (cond (feq .f64 x0 0)
   (cond (feq .f64 x1 0)
    (some (.bool ((fgt .f64 (fdiv .f64 4607182418800017408 x0) 0) == (fgt .f64 (fdiv .f64 4607182418800017408 x1) 0)), st0))
    (some (.bool (feq .f64 x0 x1), st0)))
   (some (.bool (feq .f64 x0 x1), st0)))))
noncomputable def w14 (x0 x1 : Nat) : Res :=
 (cond (!feq .f64 x0 x0)
 (cond (!feq .f64 x0 x0)
  (some (.bool (!feq .f64 x1 x1), st0))
  (some (.bool false, st0)))
 (cond (!feq .f64 x1 x1)
  (cond (!feq .f64 x0 x0)
   (some (.bool (!feq .f64 x1 x1), st0))
   (some (.bool false, st0)))
  (cond (feq .f64 x0 0)
   (cond (feq .f64 x1 0)
    (some (.bool ((fgt .f64 (fdiv .f64 4607182418800017408 x0) 0) == (fgt .f64 (fdiv .f64 4607182418800017408 x1) 0)), st0))
    (some (.bool (feq .f64 x0 x1), st0)))
   (some (.bool (feq .f64 x0 x1), st0)))))
set_option maxRecDepth 100000 in
set_option maxHeartbeats 4000000 in
theorem e14 (x0 x1 : Nat) : evFn Try.prog ext T28 noL 200 Try.f14 [.float .f64 x0, .float .f64 x1] st0 = firstT [(true, .bool (r14 x0 x1), st0)] :=
 (show evFn Try.prog ext T28 noL 200 Try.f14 [.float .f64 x0, .float .f64 x1] st0 = w14 x0 x1 from by kernel_rfl).trans
 ((show w14 x0 x1 = t14 x0 x1 from (cond_cong _ (fun h0 => (cond_t (ev_not1 (ev_nott h0)) rfl)) (fun h0 => (cond_cong _ (fun h1 => (cond_f (ev_not0 (ev_notf h0)) rfl)) (fun h1 => rfl))))).trans
 (show t14 x0 x1 = a14 x0 x1 (r14 x0 x1) from (cond_app (a14 x0 x1) _ rfl (cond_app (a14 x0 x1) _ rfl (cond_app (a14 x0 x1) _ (cond_app (a14 x0 x1) _ rfl rfl) rfl)))))
noncomputable def s14 (args : List Value) (s : St) : List (Bool × Value × St) :=
 match args, s.h with
 | [.float .f64 x0, .float .f64 x1], [] => [(true, .bool (r14 x0 x1), st0)]
 | _, _ => T28 14 args s
noncomputable def T29 : CallF := addF T28 14 s14
set_option maxRecDepth 100000 in
set_option maxHeartbeats 4000000 in
theorem ok29 : CfOk Try.prog T29 := by
  refine cfOk_add ok28 fun args s r s' h1 h2 h3 => ?_
  unfold s14 at h3; split at h3
  · rename_i h; exact callOk ok28 Try.func14 h1 h2 h (lfOkF_no _ _).body (e14 _ _) rfl h3
  · exact ok28 _ _ _ _ _ h1 h2 h3

/-- laws.eqStove -/
noncomputable def r23 (x0 x1 : Nat) (x2 x3 : Int) (x4 x5 x6 : Nat) (x7 x8 : Int) (x9 : Nat) : Bool :=
 cond (!(r14 (widen x0) (widen x5)))
  (false)
  (cond (!(r14 (widen x1) (widen x6)))
   (false)
   (cond ((x2 : Int) != x7)
    (false)
    (cond ((x3 : Int) != x8)
     (false)
     (cond (!(r14 (widen x4) (widen x9)))
      (false)
      (true)))))
noncomputable def a23 (x0 x1 : Nat) (x2 x3 : Int) (x4 x5 x6 : Nat) (x7 x8 : Int) (x9 : Nat) (p : Bool) : Res := firstT [(true, .bool p, st0)]
noncomputable def t23 (x0 x1 : Nat) (x2 x3 : Int) (x4 x5 x6 : Nat) (x7 x8 : Int) (x9 : Nat) : Res :=
 (cond (!(r14 (widen x0) (widen x5)))
 (some (.bool false, st0))
 (cond (!(r14 (widen x1) (widen x6)))
  (some (.bool false, st0))
  (cond ((x2 : Int) != x7)
   (some (.bool false, st0))
   (cond ((x3 : Int) != x8)
    (some (.bool false, st0))
    (cond (!(r14 (widen x4) (widen x9)))
     (some (.bool false, st0))
     (some (.bool true, st0)))))))
set_option maxRecDepth 100000 in
set_option maxHeartbeats 4000000 in
theorem e23 (x0 x1 : Nat) (x2 x3 : Int) (x4 x5 x6 : Nat) (x7 x8 : Int) (x9 : Nat) : evFn Try.prog ext T29 noL 200 Try.f23 [.agg #[.slice none 0 0, .float .f32 x0, .float .f32 x1, .int .i8 x2, .int .i64 x3, .float .f32 x4], .agg #[.slice none 0 0, .float .f32 x5, .float .f32 x6, .int .i8 x7, .int .i64 x8, .float .f32 x9]] st0 = firstT [(true, .bool (r23 x0 x1 x2 x3 x4 x5 x6 x7 x8 x9), st0)] :=
 (show evFn Try.prog ext T29 noL 200 Try.f23 [.agg #[.slice none 0 0, .float .f32 x0, .float .f32 x1, .int .i8 x2, .int .i64 x3, .float .f32 x4], .agg #[.slice none 0 0, .float .f32 x5, .float .f32 x6, .int .i8 x7, .int .i64 x8, .float .f32 x9]] st0 = t23 x0 x1 x2 x3 x4 x5 x6 x7 x8 x9 from by kernel_rfl).trans
 (show t23 x0 x1 x2 x3 x4 x5 x6 x7 x8 x9 = a23 x0 x1 x2 x3 x4 x5 x6 x7 x8 x9 (r23 x0 x1 x2 x3 x4 x5 x6 x7 x8 x9) from (cond_app (a23 x0 x1 x2 x3 x4 x5 x6 x7 x8 x9) _ rfl (cond_app (a23 x0 x1 x2 x3 x4 x5 x6 x7 x8 x9) _ rfl (cond_app (a23 x0 x1 x2 x3 x4 x5 x6 x7 x8 x9) _ rfl (cond_app (a23 x0 x1 x2 x3 x4 x5 x6 x7 x8 x9) _ rfl (cond_app (a23 x0 x1 x2 x3 x4 x5 x6 x7 x8 x9) _ rfl rfl))))))
noncomputable def s23 (args : List Value) (s : St) : List (Bool × Value × St) :=
 match args, s.h with
 | [.agg ⟨[.slice none f0 f1, .float .f32 x0, .float .f32 x1, .int .i8 x2, .int .i64 x3, .float .f32 x4]⟩, .agg ⟨[.slice none f2 f3, .float .f32 x5, .float .f32 x6, .int .i8 x7, .int .i64 x8, .float .f32 x9]⟩], [] => if f0 = 0 ∧ f1 = 0 ∧ f2 = 0 ∧ f3 = 0 then [(true, .bool (r23 x0 x1 x2 x3 x4 x5 x6 x7 x8 x9), st0)] else T29 23 args s
 | _, _ => T29 23 args s
noncomputable def T30 : CallF := addF T29 23 s23
set_option maxRecDepth 100000 in
set_option maxHeartbeats 4000000 in
theorem ok30 : CfOk Try.prog T30 := by
  refine cfOk_add ok29 fun args s r s' h1 h2 h3 => ?_
  unfold s23 at h3; split at h3
  · rename_i h; split at h3
    · rename_i hc; obtain ⟨rfl, rfl, rfl, rfl⟩ := hc; exact callOk ok29 Try.func23 h1 h2 h (lfOkF_no _ _).body (e23 _ _ _ _ _ _ _ _ _ _) rfl h3
    · exact ok29 _ _ _ _ _ h1 h2 h3
  · exact ok29 _ _ _ _ _ h1 h2 h3

/-- laws.eqFloat32A6 -/
noncomputable def r120 (x0 x1 x2 x3 x4 x5 x6 x7 x8 x9 x10 x11 : Nat) : Bool :=
 cond (!(r14 (widen x0) (widen x6)))
  (false)
  (cond (!(r14 (widen x1) (widen x7)))
   (false)
   (cond (!(r14 (widen x2) (widen x8)))
    (false)
    (cond (!(r14 (widen x3) (widen x9)))
     (false)
     (cond (!(r14 (widen x4) (widen x10)))
      (false)
      (cond (!(r14 (widen x5) (widen x11)))
       (false)
       (true))))))
noncomputable def a120 (x0 x1 x2 x3 x4 x5 x6 x7 x8 x9 x10 x11 : Nat) (p : Bool) : Res := firstT [(true, .bool p, st0)]
noncomputable def t120 (x0 x1 x2 x3 x4 x5 x6 x7 x8 x9 x10 x11 : Nat) : Res :=
 (cond (!(r14 (widen x0) (widen x6)))
 (some (.bool false, st0))
 (cond (!(r14 (widen x1) (widen x7)))
  (some (.bool false, st0))
  (cond (!(r14 (widen x2) (widen x8)))
   (some (.bool false, st0))
   (cond (!(r14 (widen x3) (widen x9)))
    (some (.bool false, st0))
    (cond (!(r14 (widen x4) (widen x10)))
     (some (.bool false, st0))
     (cond (!(r14 (widen x5) (widen x11)))
      (some (.bool false, st0))
      (some (.bool true, st0))))))))
set_option maxRecDepth 100000 in
set_option maxHeartbeats 4000000 in
theorem e120 (x0 x1 x2 x3 x4 x5 x6 x7 x8 x9 x10 x11 : Nat) : evFn Try.prog ext T30 noL 200 Try.f120 [.agg #[.float .f32 x0, .float .f32 x1, .float .f32 x2, .float .f32 x3, .float .f32 x4, .float .f32 x5], .agg #[.float .f32 x6, .float .f32 x7, .float .f32 x8, .float .f32 x9, .float .f32 x10, .float .f32 x11]] st0 = firstT [(true, .bool (r120 x0 x1 x2 x3 x4 x5 x6 x7 x8 x9 x10 x11), st0)] :=
 (show evFn Try.prog ext T30 noL 200 Try.f120 [.agg #[.float .f32 x0, .float .f32 x1, .float .f32 x2, .float .f32 x3, .float .f32 x4, .float .f32 x5], .agg #[.float .f32 x6, .float .f32 x7, .float .f32 x8, .float .f32 x9, .float .f32 x10, .float .f32 x11]] st0 = t120 x0 x1 x2 x3 x4 x5 x6 x7 x8 x9 x10 x11 from by kernel_rfl).trans
 (show t120 x0 x1 x2 x3 x4 x5 x6 x7 x8 x9 x10 x11 = a120 x0 x1 x2 x3 x4 x5 x6 x7 x8 x9 x10 x11 (r120 x0 x1 x2 x3 x4 x5 x6 x7 x8 x9 x10 x11) from (cond_app (a120 x0 x1 x2 x3 x4 x5 x6 x7 x8 x9 x10 x11) _ rfl (cond_app (a120 x0 x1 x2 x3 x4 x5 x6 x7 x8 x9 x10 x11) _ rfl (cond_app (a120 x0 x1 x2 x3 x4 x5 x6 x7 x8 x9 x10 x11) _ rfl (cond_app (a120 x0 x1 x2 x3 x4 x5 x6 x7 x8 x9 x10 x11) _ rfl (cond_app (a120 x0 x1 x2 x3 x4 x5 x6 x7 x8 x9 x10 x11) _ rfl (cond_app (a120 x0 x1 x2 x3 x4 x5 x6 x7 x8 x9 x10 x11) _ rfl rfl)))))))
noncomputable def s120 (args : List Value) (s : St) : List (Bool × Value × St) :=
 match args, s.h with
 | [.agg ⟨[.float .f32 x0, .float .f32 x1, .float .f32 x2, .float .f32 x3, .float .f32 x4, .float .f32 x5]⟩, .agg ⟨[.float .f32 x6, .float .f32 x7, .float .f32 x8, .float .f32 x9, .float .f32 x10, .float .f32 x11]⟩], [] => [(true, .bool (r120 x0 x1 x2 x3 x4 x5 x6 x7 x8 x9 x10 x11), st0)]
 | _, _ => T30 120 args s
noncomputable def T31 : CallF := addF T30 120 s120
set_option maxRecDepth 100000 in
set_option maxHeartbeats 4000000 in
theorem ok31 : CfOk Try.prog T31 := by
  refine cfOk_add ok30 fun args s r s' h1 h2 h3 => ?_
  unfold s120 at h3; split at h3
  · rename_i h; exact callOk ok30 Try.func120 h1 h2 h (lfOkF_no _ _).body (e120 _ _ _ _ _ _ _ _ _ _ _ _) rfl h3
  · exact ok30 _ _ _ _ _ h1 h2 h3

/-- laws.eqWood -/
noncomputable def r101 (x0 x1 x2 x3 x4 x5 x6 x7 x8 x9 x10 x11 x12 x13 x14 x15 x16 x17 x18 x19 x20 x21 x22 x23 x24 x25 x26 x27 x28 x29 x30 x31 x32 x33 x34 x35 : Nat) : Bool :=
 cond (!(r120 x0 x1 x2 x3 x4 x5 x18 x19 x20 x21 x22 x23))
  (false)
  (cond (!(r120 x6 x7 x8 x9 x10 x11 x24 x25 x26 x27 x28 x29))
   (false)
   (cond (!(r120 x12 x13 x14 x15 x16 x17 x30 x31 x32 x33 x34 x35))
    (false)
    (true)))
noncomputable def a101 (x0 x1 x2 x3 x4 x5 x6 x7 x8 x9 x10 x11 x12 x13 x14 x15 x16 x17 x18 x19 x20 x21 x22 x23 x24 x25 x26 x27 x28 x29 x30 x31 x32 x33 x34 x35 : Nat) (p : Bool) : Res := firstT [(true, .bool p, st0)]
noncomputable def t101 (x0 x1 x2 x3 x4 x5 x6 x7 x8 x9 x10 x11 x12 x13 x14 x15 x16 x17 x18 x19 x20 x21 x22 x23 x24 x25 x26 x27 x28 x29 x30 x31 x32 x33 x34 x35 : Nat) : Res :=
 (cond (!(r120 x0 x1 x2 x3 x4 x5 x18 x19 x20 x21 x22 x23))
 (some (.bool false, st0))
 (cond (!(r120 x6 x7 x8 x9 x10 x11 x24 x25 x26 x27 x28 x29))
  (some (.bool false, st0))
  (cond (!(r120 x12 x13 x14 x15 x16 x17 x30 x31 x32 x33 x34 x35))
   (some (.bool false, st0))
   (some (.bool true, st0)))))
set_option maxRecDepth 100000 in
set_option maxHeartbeats 4000000 in
theorem e101 (x0 x1 x2 x3 x4 x5 x6 x7 x8 x9 x10 x11 x12 x13 x14 x15 x16 x17 x18 x19 x20 x21 x22 x23 x24 x25 x26 x27 x28 x29 x30 x31 x32 x33 x34 x35 : Nat) : evFn Try.prog ext T31 noL 200 Try.f101 [.agg #[.float .f32 x0, .float .f32 x1, .float .f32 x2, .float .f32 x3, .float .f32 x4, .float .f32 x5, .float .f32 x6, .float .f32 x7, .float .f32 x8, .float .f32 x9, .float .f32 x10, .float .f32 x11, .float .f32 x12, .float .f32 x13, .float .f32 x14, .float .f32 x15, .float .f32 x16, .float .f32 x17], .agg #[.float .f32 x18, .float .f32 x19, .float .f32 x20, .float .f32 x21, .float .f32 x22, .float .f32 x23, .float .f32 x24, .float .f32 x25, .float .f32 x26, .float .f32 x27, .float .f32 x28, .float .f32 x29, .float .f32 x30, .float .f32 x31, .float .f32 x32, .float .f32 x33, .float .f32 x34, .float .f32 x35]] st0 = firstT [(true, .bool (r101 x0 x1 x2 x3 x4 x5 x6 x7 x8 x9 x10 x11 x12 x13 x14 x15 x16 x17 x18 x19 x20 x21 x22 x23 x24 x25 x26 x27 x28 x29 x30 x31 x32 x33 x34 x35), st0)] :=
 (show evFn Try.prog ext T31 noL 200 Try.f101 [.agg #[.float .f32 x0, .float .f32 x1, .float .f32 x2, .float .f32 x3, .float .f32 x4, .float .f32 x5, .float .f32 x6, .float .f32 x7, .float .f32 x8, .float .f32 x9, .float .f32 x10, .float .f32 x11, .float .f32 x12, .float .f32 x13, .float .f32 x14, .float .f32 x15, .float .f32 x16, .float .f32 x17], .agg #[.float .f32 x18, .float .f32 x19, .float .f32 x20, .float .f32 x21, .float .f32 x22, .float .f32 x23, .float .f32 x24, .float .f32 x25, .float .f32 x26, .float .f32 x27, .float .f32 x28, .float .f32 x29, .float .f32 x30, .float .f32 x31, .float .f32 x32, .float .f32 x33, .float .f32 x34, .float .f32 x35]] st0 = t101 x0 x1 x2 x3 x4 x5 x6 x7 x8 x9 x10 x11 x12 x13 x14 x15 x16 x17 x18 x19 x20 x21 x22 x23 x24 x25 x26 x27 x28 x29 x30 x31 x32 x33 x34 x35 from by kernel_rfl).trans
 (show t101 x0 x1 x2 x3 x4 x5 x6 x7 x8 x9 x10 x11 x12 x13 x14 x15 x16 x17 x18 x19 x20 x21 x22 x23 x24 x25 x26 x27 x28 x29 x30 x31 x32 x33 x34 x35 = a101 x0 x1 x2 x3 x4 x5 x6 x7 x8 x9 x10 x11 x12 x13 x14 x15 x16 x17 x18 x19 x20 x21 x22 x23 x24 x25 x26 x27 x28 x29 x30 x31 x32 x33 x34 x35 (r101 x0 x1 x2 x3 x4 x5 x6 x7 x8 x9 x10 x11 x12 x13 x14 x15 x16 x17 x18 x19 x20 x21 x22 x23 x24 x25 x26 x27 x28 x29 x30 x31 x32 x33 x34 x35) from (cond_app (a101 x0 x1 x2 x3 x4 x5 x6 x7 x8 x9 x10 x11 x12 x13 x14 x15 x16 x17 x18 x19 x20 x21 x22 x23 x24 x25 x26 x27 x28 x29 x30 x31 x32 x33 x34 x35) _ rfl (cond_app (a101 x0 x1 x2 x3 x4 x5 x6 x7 x8 x9 x10 x11 x12 x13 x14 x15 x16 x17 x18 x19 x20 x21 x22 x23 x24 x25 x26 x27 x28 x29 x30 x31 x32 x33 x34 x35) _ rfl (cond_app (a101 x0 x1 x2 x3 x4 x5 x6 x7 x8 x9 x10 x11 x12 x13 x14 x15 x16 x17 x18 x19 x20 x21 x22 x23 x24 x25 x26 x27 x28 x29 x30 x31 x32 x33 x34 x35) _ rfl rfl))))
noncomputable def s101 (args : List Value) (s : St) : List (Bool × Value × St) :=
 match args, s.h with
 | [.agg ⟨[.float .f32 x0, .float .f32 x1, .float .f32 x2, .float .f32 x3, .float .f32 x4, .float .f32 x5, .float .f32 x6, .float .f32 x7, .float .f32 x8, .float .f32 x9, .float .f32 x10, .float .f32 x11, .float .f32 x12, .float .f32 x13, .float .f32 x14, .float .f32 x15, .float .f32 x16, .float .f32 x17]⟩, .agg ⟨[.float .f32 x18, .float .f32 x19, .float .f32 x20, .float .f32 x21, .float .f32 x22, .float .f32 x23, .float .f32 x24, .float .f32 x25, .float .f32 x26, .float .f32 x27, .float .f32 x28, .float .f32 x29, .float .f32 x30, .float .f32 x31, .float .f32 x32, .float .f32 x33, .float .f32 x34, .float .f32 x35]⟩], [] => [(true, .bool (r101 x0 x1 x2 x3 x4 x5 x6 x7 x8 x9 x10 x11 x12 x13 x14 x15 x16 x17 x18 x19 x20 x21 x22 x23 x24 x25 x26 x27 x28 x29 x30 x31 x32 x33 x34 x35), st0)]
 | _, _ => T31 101 args s
noncomputable def T32 : CallF := addF T31 101 s101
set_option maxRecDepth 100000 in
set_option maxHeartbeats 4000000 in
theorem ok32 : CfOk Try.prog T32 := by
  refine cfOk_add ok31 fun args s r s' h1 h2 h3 => ?_
  unfold s101 at h3; split at h3
  · rename_i h; exact callOk ok31 Try.func101 h1 h2 h (lfOkF_no _ _).body (e101 _ _ _ _ _ _ _ _ _ _ _ _ _ _ _ _ _ _ _ _ _ _ _ _ _ _ _ _ _ _ _ _ _ _ _ _) rfl h3
  · exact ok31 _ _ _ _ _ h1 h2 h3

/-- laws.eqWoodS, loop 0: one round -/
noncomputable def b66l0b (ih : Int → List (List Int) → List (List Int) → Nat) (x0 : Int) (x1 x2 : List (List Int)) : Nat :=
 let c68 := (r101 (Int.toNat ((x1.getD (Int.toNat x0) []).getD 0 0)) (Int.toNat ((x1.getD (Int.toNat x0) []).getD 1 0)) (Int.toNat ((x1.getD (Int.toNat x0) []).getD 2 0)) (Int.toNat ((x1.getD (Int.toNat x0) []).getD 3 0)) (Int.toNat ((x1.getD (Int.toNat x0) []).getD 4 0)) (Int.toNat ((x1.getD (Int.toNat x0) []).getD 5 0)) (Int.toNat ((x1.getD (Int.toNat x0) []).getD 6 0)) (Int.toNat ((x1.getD (Int.toNat x0) []).getD 7 0)) (Int.toNat ((x1.getD (Int.toNat x0) []).getD 8 0)) (Int.toNat ((x1.getD (Int.toNat x0) []).getD 9 0)) (Int.toNat ((x1.getD (Int.toNat x0) []).getD 10 0)) (Int.toNat ((x1.getD (Int.toNat x0) []).getD 11 0)) (Int.toNat ((x1.getD (Int.toNat x0) []).getD 12 0)) (Int.toNat ((x1.getD (Int.toNat x0) []).getD 13 0)) (Int.toNat ((x1.getD (Int.toNat x0) []).getD 14 0)) (Int.toNat ((x1.getD (Int.toNat x0) []).getD 15 0)) (Int.toNat ((x1.getD (Int.toNat x0) []).getD 16 0)) (Int.toNat ((x1.getD (Int.toNat x0) []).getD 17 0)) (Int.toNat ((x2.getD (Int.toNat x0) []).getD 0 0)) (Int.toNat ((x2.getD (Int.toNat x0) []).getD 1 0)) (Int.toNat ((x2.getD (Int.toNat x0) []).getD 2 0)) (Int.toNat ((x2.getD (Int.toNat x0) []).getD 3 0)) (Int.toNat ((x2.getD (Int.toNat x0) []).getD 4 0)) (Int.toNat ((x2.getD (Int.toNat x0) []).getD 5 0)) (Int.toNat ((x2.getD (Int.toNat x0) []).getD 6 0)) (Int.toNat ((x2.getD (Int.toNat x0) []).getD 7 0)) (Int.toNat ((x2.getD (Int.toNat x0) []).getD 8 0)) (Int.toNat ((x2.getD (Int.toNat x0) []).getD 9 0)) (Int.toNat ((x2.getD (Int.toNat x0) []).getD 10 0)) (Int.toNat ((x2.getD (Int.toNat x0) []).getD 11 0)) (Int.toNat ((x2.getD (Int.toNat x0) []).getD 12 0)) (Int.toNat ((x2.getD (Int.toNat x0) []).getD 13 0)) (Int.toNat ((x2.getD (Int.toNat x0) []).getD 14 0)) (Int.toNat ((x2.getD (Int.toNat x0) []).getD 15 0)) (Int.toNat ((x2.getD (Int.toNat x0) []).getD 16 0)) (Int.toNat ((x2.getD (Int.toNat x0) []).getD 17 0)))
 cond (decide ((x0 : Int) < ((x1.length : Nat) : Int)))
  (cond ((decide ((0 : Int) ≤ x0)) && (Nat.blt (Int.toNat x0) x1.length))
   (cond ((decide ((0 : Int) ≤ x0)) && (Nat.blt (Int.toNat x0) x2.length))
    (cond (!c68)
     (0)
     (ih (IntKind.i64.wrap (x0 + 1)) x1 x2))
    (2))
   (2))
  (1)
noncomputable def r66l0b : Nat → Int → List (List Int) → List (List Int) → Nat
 | 0, _, _, _ => (2)
 | m + 1, x0, x1, x2 => b66l0b (r66l0b m) x0 x1 x2
noncomputable def a66l0b (x0 : Int) (x1 x2 : List (List Int)) (p : Nat) : Option (Fin' × List Value × St) := firstT ([((Nat.beq p 0), .ret, [.bool false], ⟨[⟨true, (some (.tab sc0 x1))⟩, ⟨true, (some (.tab sc0 x2))⟩], 2, []⟩), ((Nat.beq p 1), .exit 0, [anyV], ⟨[⟨true, (some (.tab sc0 x1))⟩, ⟨true, (some (.tab sc0 x2))⟩], 2, []⟩)].map fun (b, x) => (b, (x.1, frameOf 27 [4] x.2.1, x.2.2)))
theorem v66l0b (x0 : Int) (x1 x2 : List (List Int)) (p : Nat) : alts ([((Nat.beq p 0), .ret, [.bool false], ⟨[⟨true, (some (.tab sc0 x1))⟩, ⟨true, (some (.tab sc0 x2))⟩], 2, []⟩), ((Nat.beq p 1), .exit 0, [anyV], ⟨[⟨true, (some (.tab sc0 x1))⟩, ⟨true, (some (.tab sc0 x2))⟩], 2, []⟩)].map fun (b, x) => (b, (x.1, frameOf 27 [4] x.2.1, x.2.2))) some = a66l0b x0 x1 x2 p := alts_first _
noncomputable def q66l0b (m : Nat) : SumK := fun vals s =>
 match vals, s.h with
 | [.iface f0 .nilIface, .iface f1 .nilIface, .int .i64 x0], [⟨true, some (.tab [.fl .f32, .fl .f32, .fl .f32, .fl .f32, .fl .f32, .fl .f32, .fl .f32, .fl .f32, .fl .f32, .fl .f32, .fl .f32, .fl .f32, .fl .f32, .fl .f32, .fl .f32, .fl .f32, .fl .f32, .fl .f32] x1)⟩, ⟨true, some (.tab [.fl .f32, .fl .f32, .fl .f32, .fl .f32, .fl .f32, .fl .f32, .fl .f32, .fl .f32, .fl .f32, .fl .f32, .fl .f32, .fl .f32, .fl .f32, .fl .f32, .fl .f32, .fl .f32, .fl .f32, .fl .f32] x2)⟩] => if f0 = 0 ∧ f1 = 1 then [((Nat.beq (r66l0b m x0 x1 x2) 0), .ret, [.bool false], ⟨[⟨true, (some (.tab sc0 x1))⟩, ⟨true, (some (.tab sc0 x2))⟩], 2, []⟩), ((Nat.beq (r66l0b m x0 x1 x2) 1), .exit 0, [anyV], ⟨[⟨true, (some (.tab sc0 x1))⟩, ⟨true, (some (.tab sc0 x2))⟩], 2, []⟩)] else Q66l0 vals s
 | _, _ => Q66l0 vals s
noncomputable def t66l0b (ih : Int → List (List Int) → List (List Int) → Nat) (x0 : Int) (x1 x2 : List (List Int)) : Option (Fin' × List Value × St) :=
 let c68 := (r101 (Int.toNat ((x1.getD (Int.toNat x0) []).getD 0 0)) (Int.toNat ((x1.getD (Int.toNat x0) []).getD 1 0)) (Int.toNat ((x1.getD (Int.toNat x0) []).getD 2 0)) (Int.toNat ((x1.getD (Int.toNat x0) []).getD 3 0)) (Int.toNat ((x1.getD (Int.toNat x0) []).getD 4 0)) (Int.toNat ((x1.getD (Int.toNat x0) []).getD 5 0)) (Int.toNat ((x1.getD (Int.toNat x0) []).getD 6 0)) (Int.toNat ((x1.getD (Int.toNat x0) []).getD 7 0)) (Int.toNat ((x1.getD (Int.toNat x0) []).getD 8 0)) (Int.toNat ((x1.getD (Int.toNat x0) []).getD 9 0)) (Int.toNat ((x1.getD (Int.toNat x0) []).getD 10 0)) (Int.toNat ((x1.getD (Int.toNat x0) []).getD 11 0)) (Int.toNat ((x1.getD (Int.toNat x0) []).getD 12 0)) (Int.toNat ((x1.getD (Int.toNat x0) []).getD 13 0)) (Int.toNat ((x1.getD (Int.toNat x0) []).getD 14 0)) (Int.toNat ((x1.getD (Int.toNat x0) []).getD 15 0)) (Int.toNat ((x1.getD (Int.toNat x0) []).getD 16 0)) (Int.toNat ((x1.getD (Int.toNat x0) []).getD 17 0)) (Int.toNat ((x2.getD (Int.toNat x0) []).getD 0 0)) (Int.toNat ((x2.getD (Int.toNat x0) []).getD 1 0)) (Int.toNat ((x2.getD (Int.toNat x0) []).getD 2 0)) (Int.toNat ((x2.getD (Int.toNat x0) []).getD 3 0)) (Int.toNat ((x2.getD (Int.toNat x0) []).getD 4 0)) (Int.toNat ((x2.getD (Int.toNat x0) []).getD 5 0)) (Int.toNat ((x2.getD (Int.toNat x0) []).getD 6 0)) (Int.toNat ((x2.getD (Int.toNat x0) []).getD 7 0)) (Int.toNat ((x2.getD (Int.toNat x0) []).getD 8 0)) (Int.toNat ((x2.getD (Int.toNat x0) []).getD 9 0)) (Int.toNat ((x2.getD (Int.toNat x0) []).getD 10 0)) (Int.toNat ((x2.getD (Int.toNat x0) []).getD 11 0)) (Int.toNat ((x2.getD (Int.toNat x0) []).getD 12 0)) (Int.toNat ((x2.getD (Int.toNat x0) []).getD 13 0)) (Int.toNat ((x2.getD (Int.toNat x0) []).getD 14 0)) (Int.toNat ((x2.getD (Int.toNat x0) []).getD 15 0)) (Int.toNat ((x2.getD (Int.toNat x0) []).getD 16 0)) (Int.toNat ((x2.getD (Int.toNat x0) []).getD 17 0)))
 (cond (decide ((x0 : Int) < ((x1.length : Nat) : Int)))
 (cond ((decide ((0 : Int) ≤ x0)) && (Nat.blt (Int.toNat x0) x1.length))
  (cond ((decide ((0 : Int) ≤ x0)) && (Nat.blt (Int.toNat x0) x2.length))
   (cond (!c68)
    (some (.ret, frameOf 27 [4] [.bool false], ⟨[⟨true, (some (.tab sc0 x1))⟩, ⟨true, (some (.tab sc0 x2))⟩], 2, []⟩))
    (cond (Nat.beq (ih (IntKind.i64.wrap (x0 + 1)) x1 x2) 0)
     (some (.ret, frameOf 27 [4] [.bool false], ⟨[⟨true, (some (.tab sc0 x1))⟩, ⟨true, (some (.tab sc0 x2))⟩], 2, []⟩))
     (cond (Nat.beq (ih (IntKind.i64.wrap (x0 + 1)) x1 x2) 1)
      (some (.exit 0, frameOf 27 [4] [anyV], ⟨[⟨true, (some (.tab sc0 x1))⟩, ⟨true, (some (.tab sc0 x2))⟩], 2, []⟩))
      none)))
   none)
  none)
 (some (.exit 0, frameOf 27 [4] [anyV], ⟨[⟨true, (some (.tab sc0 x1))⟩, ⟨true, (some (.tab sc0 x2))⟩], 2, []⟩)))
noncomputable def w66l0b (ih : Int → List (List Int) → List (List Int) → Nat) (x0 : Int) (x1 x2 : List (List Int)) : Option (Fin' × List Value × St) :=
 let c68 := (r101 (Int.toNat ((x1.getD (Int.toNat x0) []).getD 0 0)) (Int.toNat ((x1.getD (Int.toNat x0) []).getD 1 0)) (Int.toNat ((x1.getD (Int.toNat x0) []).getD 2 0)) (Int.toNat ((x1.getD (Int.toNat x0) []).getD 3 0)) (Int.toNat ((x1.getD (Int.toNat x0) []).getD 4 0)) (Int.toNat ((x1.getD (Int.toNat x0) []).getD 5 0)) (Int.toNat ((x1.getD (Int.toNat x0) []).getD 6 0)) (Int.toNat ((x1.getD (Int.toNat x0) []).getD 7 0)) (Int.toNat ((x1.getD (Int.toNat x0) []).getD 8 0)) (Int.toNat ((x1.getD (Int.toNat x0) []).getD 9 0)) (Int.toNat ((x1.getD (Int.toNat x0) []).getD 10 0)) (Int.toNat ((x1.getD (Int.toNat x0) []).getD 11 0)) (Int.toNat ((x1.getD (Int.toNat x0) []).getD 12 0)) (Int.toNat ((x1.getD (Int.toNat x0) []).getD 13 0)) (Int.toNat ((x1.getD (Int.toNat x0) []).getD 14 0)) (Int.toNat ((x1.getD (Int.toNat x0) []).getD 15 0)) (Int.toNat ((x1.getD (Int.toNat x0) []).getD 16 0)) (Int.toNat ((x1.getD (Int.toNat x0) []).getD 17 0)) (Int.toNat ((x2.getD (Int.toNat x0) []).getD 0 0)) (Int.toNat ((x2.getD (Int.toNat x0) []).getD 1 0)) (Int.toNat ((x2.getD (Int.toNat x0) []).getD 2 0)) (Int.toNat ((x2.getD (Int.toNat x0) []).getD 3 0)) (Int.toNat ((x2.getD (Int.toNat x0) []).getD 4 0)) (Int.toNat ((x2.getD (Int.toNat x0) []).getD 5 0)) (Int.toNat ((x2.getD (Int.toNat x0) []).getD 6 0)) (Int.toNat ((x2.getD (Int.toNat x0) []).getD 7 0)) (Int.toNat ((x2.getD (Int.toNat x0) []).getD 8 0)) (Int.toNat ((x2.getD (Int.toNat x0) []).getD 9 0)) (Int.toNat ((x2.getD (Int.toNat x0) []).getD 10 0)) (Int.toNat ((x2.getD (Int.toNat x0) []).getD 11 0)) (Int.toNat ((x2.getD (Int.toNat x0) []).getD 12 0)) (Int.toNat ((x2.getD (Int.toNat x0) []).getD 13 0)) (Int.toNat ((x2.getD (Int.toNat x0) []).getD 14 0)) (Int.toNat ((x2.getD (Int.toNat x0) []).getD 15 0)) (Int.toNat ((x2.getD (Int.toNat x0) []).getD 16 0)) (Int.toNat ((x2.getD (Int.toNat x0) []).getD 17 0)))
 (cond (decide ((x0 : Int) < ((x1.length : Nat) : Int)))
 (cond ((decide ((0 : Int) ≤ x0)) && (Nat.blt (Int.toNat x0) x1.length))
  (cond (Nat.blt (Int.toNat x0) x1.length)
   (cond ((decide ((0 : Int) ≤ x0)) && (Nat.blt (Int.toNat x0) x2.length))
    (cond (Nat.blt (Int.toNat x0) x2.length)
     (cond (!c68)
      (some (.ret, frameOf 27 [4] [.bool false], ⟨[⟨true, (some (.tab sc0 x1))⟩, ⟨true, (some (.tab sc0 x2))⟩], 2, []⟩))
      (cond (Nat.beq (ih (IntKind.i64.wrap (x0 + 1)) x1 x2) 0)
       (some (.ret, frameOf 27 [4] [.bool false], ⟨[⟨true, (some (.tab sc0 x1))⟩, ⟨true, (some (.tab sc0 x2))⟩], 2, []⟩))
       (cond (Nat.beq (ih (IntKind.i64.wrap (x0 + 1)) x1 x2) 1)
        (some (.exit 0, frameOf 27 [4] [anyV], ⟨[⟨true, (some (.tab sc0 x1))⟩, ⟨true, (some (.tab sc0 x2))⟩], 2, []⟩))
        none)))
     none)
    none)
   none)
  none)
 (some (.exit 0, frameOf 27 [4] [anyV], ⟨[⟨true, (some (.tab sc0 x1))⟩, ⟨true, (some (.tab sc0 x2))⟩], 2, []⟩)))
set_option maxRecDepth 100000 in
set_option maxHeartbeats 4000000 in
theorem e66l0b (m : Nat) (x0 : Int) (x1 x2 : List (List Int)) : evC Try.prog ext T32 L66_1 200 (loopN Try.f66 0) (loopTail [0, 1, 5] [4] [] (sumK 27 [0, 1, 5] [4] (q66l0b m))) (frameOf 27 [0, 1, 5] [wsl 0, wsl 1, .int .i64 x0]) ⟨[⟨true, (some (.tab sc0 x1))⟩, ⟨true, (some (.tab sc0 x2))⟩], 2, []⟩ = firstT ([((Nat.beq (r66l0b (m + 1) x0 x1 x2) 0), .ret, [.bool false], ⟨[⟨true, (some (.tab sc0 x1))⟩, ⟨true, (some (.tab sc0 x2))⟩], 2, []⟩), ((Nat.beq (r66l0b (m + 1) x0 x1 x2) 1), .exit 0, [anyV], ⟨[⟨true, (some (.tab sc0 x1))⟩, ⟨true, (some (.tab sc0 x2))⟩], 2, []⟩)].map fun (b, x) => (b, (x.1, frameOf 27 [4] x.2.1, x.2.2))) :=
 (show evC Try.prog ext T32 L66_1 200 (loopN Try.f66 0) (loopTail [0, 1, 5] [4] [] (sumK 27 [0, 1, 5] [4] (q66l0b m))) (frameOf 27 [0, 1, 5] [wsl 0, wsl 1, .int .i64 x0]) ⟨[⟨true, (some (.tab sc0 x1))⟩, ⟨true, (some (.tab sc0 x2))⟩], 2, []⟩ = w66l0b (r66l0b m) x0 x1 x2 from by kernel_rfl).trans
 ((show w66l0b (r66l0b m) x0 x1 x2 = t66l0b (r66l0b m) x0 x1 x2 from (cond_cong _ (fun h0 => (cond_cong _ (fun h1 => (cond_t (ev_and2 h1) (cond_cong _ (fun h2 => (cond_t (ev_and2 h2) rfl)) (fun h2 => rfl)))) (fun h1 => rfl))) (fun h0 => rfl))).trans
 (show t66l0b (r66l0b m) x0 x1 x2 = a66l0b x0 x1 x2 (r66l0b (m + 1) x0 x1 x2) from (cond_app (a66l0b x0 x1 x2) _ (cond_app (a66l0b x0 x1 x2) _ (cond_app (a66l0b x0 x1 x2) _ (cond_app (a66l0b x0 x1 x2) _ rfl (v66l0b x0 x1 x2 ((r66l0b m) (IntKind.i64.wrap (x0 + 1)) x1 x2))) rfl) rfl) rfl)))
set_option maxRecDepth 100000 in
set_option maxHeartbeats 4000000 in
theorem qm66l0b : ∀ m, SumKOk Try.prog (loopN Try.f66 0) 27 [0, 1, 5] [4] (q66l0b m) := by
  intro m
  induction m with
  | zero =>
    intro vals s x h1 h2 h3
    unfold q66l0b at h3; split at h3
    · rename_i h; split at h3
      · rename_i hc; obtain ⟨rfl, rfl⟩ := hc; exact absurd h3 (by simp [r66l0b, firstT, Nat.beq])
      · exact qok66l0 _ _ _ h1 h2 h3
    · exact qok66l0 _ _ _ h1 h2 h3
  | succ m ih =>
    intro vals s x h1 h2 h3
    unfold q66l0b at h3; split at h3
    · rename_i h; split at h3
      · rename_i hc; obtain ⟨rfl, rfl⟩ := hc; exact sum_step ok32 extOk mixed (lok66_1.inner (by kernel_rfl)) ih h1 h2 h (e66l0b m _ _ _) rfl h3
      · exact qok66l0 _ _ _ h1 h2 h3
    · exact qok66l0 _ _ _ h1 h2 h3
noncomputable def Q66l0b : SumK := fun vals s => q66l0b (fuelOf vals s.h) vals s
theorem qok66l0b : SumKOk Try.prog (loopN Try.f66 0) 27 [0, 1, 5] [4] Q66l0b := fuel_ok qm66l0b fuelOf
noncomputable def L66_2 : LoopT := addL L66_1 5 [0, 1, 5] (sumK 27 [0, 1, 5] [4] Q66l0b)
theorem lok66_2 : LfOkF Try.prog L66_2 Try.f66 := lfOkF_add lok66_1 qok66l0b (by kernel_rfl) (by kernel_rfl) (by kernel_rfl)

/-- laws.eqWoodS -/
noncomputable def r66b (x0 x1 : List (List Int)) : Nat × Bool :=
 cond ((((x0.length : Nat) : Int) : Int) != ((x1.length : Nat) : Int))
  (0, false)
  (cond (Nat.beq (r66l0b (1000 + x1.length + x0.length) 0 x0 x1) 0)
   (0, false)
   (cond (Nat.beq (r66l0b (1000 + x1.length + x0.length) 0 x0 x1) 1)
    (0, true)
    (1, false)))
noncomputable def a66b (x0 x1 : List (List Int)) (p : Nat × Bool) : Res := firstT [((Nat.beq (p.1) 0), .bool (p.2), ⟨[⟨true, (some (.tab sc0 x0))⟩, ⟨true, (some (.tab sc0 x1))⟩], 2, []⟩)]
noncomputable def t66b (x0 x1 : List (List Int)) : Res :=
 (cond ((((x0.length : Nat) : Int) : Int) != ((x1.length : Nat) : Int))
 (some (.bool false, ⟨[⟨true, (some (.tab sc0 x0))⟩, ⟨true, (some (.tab sc0 x1))⟩], 2, []⟩))
 (cond (Nat.beq (r66l0b (1000 + x1.length + x0.length) 0 x0 x1) 0)
  (some (.bool false, ⟨[⟨true, (some (.tab sc0 x0))⟩, ⟨true, (some (.tab sc0 x1))⟩], 2, []⟩))
  (cond (Nat.beq (r66l0b (1000 + x1.length + x0.length) 0 x0 x1) 1)
   (some (.bool true, ⟨[⟨true, (some (.tab sc0 x0))⟩, ⟨true, (some (.tab sc0 x1))⟩], 2, []⟩))
   none)))
set_option maxRecDepth 100000 in
set_option maxHeartbeats 4000000 in
theorem e66b (x0 x1 : List (List Int)) : evFn Try.prog ext T32 L66_2 200 Try.f66 [wsl 0, wsl 1] ⟨[⟨true, (some (.tab sc0 x0))⟩, ⟨true, (some (.tab sc0 x1))⟩], 2, []⟩ = firstT [((Nat.beq ((r66b x0 x1).1) 0), .bool ((r66b x0 x1).2), ⟨[⟨true, (some (.tab sc0 x0))⟩, ⟨true, (some (.tab sc0 x1))⟩], 2, []⟩)] :=
 (show evFn Try.prog ext T32 L66_2 200 Try.f66 [wsl 0, wsl 1] ⟨[⟨true, (some (.tab sc0 x0))⟩, ⟨true, (some (.tab sc0 x1))⟩], 2, []⟩ = t66b x0 x1 from by kernel_rfl).trans
 (show t66b x0 x1 = a66b x0 x1 (r66b x0 x1) from (cond_app (a66b x0 x1) _ rfl (cond_app (a66b x0 x1) _ rfl (cond_app (a66b x0 x1) _ rfl rfl))))
noncomputable def s66b (args : List Value) (s : St) : List (Bool × Value × St) :=
 match args, s.h with
 | [.iface f0 .nilIface, .iface f1 .nilIface], [⟨true, some (.tab [.fl .f32, .fl .f32, .fl .f32, .fl .f32, .fl .f32, .fl .f32, .fl .f32, .fl .f32, .fl .f32, .fl .f32, .fl .f32, .fl .f32, .fl .f32, .fl .f32, .fl .f32, .fl .f32, .fl .f32, .fl .f32] x0)⟩, ⟨true, some (.tab [.fl .f32, .fl .f32, .fl .f32, .fl .f32, .fl .f32, .fl .f32, .fl .f32, .fl .f32, .fl .f32, .fl .f32, .fl .f32, .fl .f32, .fl .f32, .fl .f32, .fl .f32, .fl .f32, .fl .f32, .fl .f32] x1)⟩] => if f0 = 0 ∧ f1 = 1 then [((Nat.beq ((r66b x0 x1).1) 0), .bool ((r66b x0 x1).2), ⟨[⟨true, (some (.tab sc0 x0))⟩, ⟨true, (some (.tab sc0 x1))⟩], 2, []⟩)] else T32 66 args s
 | _, _ => T32 66 args s
noncomputable def T33 : CallF := addF T32 66 s66b
set_option maxRecDepth 100000 in
set_option maxHeartbeats 4000000 in
theorem ok33 : CfOk Try.prog T33 := by
  refine cfOk_add ok32 fun args s r s' h1 h2 h3 => ?_
  unfold s66b at h3; split at h3
  · rename_i h; split at h3
    · rename_i hc; obtain ⟨rfl, rfl⟩ := hc; exact callOk ok32 Try.func66 h1 h2 h lok66_2.body (e66b _ _) rfl h3
    · exact ok32 _ _ _ _ _ h1 h2 h3
  · exact ok32 _ _ _ _ _ h1 h2 h3

/-- laws.eqStove -/
noncomputable def r23b (x0 x1 : Nat) (x2 x3 : Int) (x4 x5 x6 : Nat) (x7 x8 : Int) (x9 : Nat) (x10 x11 : List (List Int)) : Nat × Bool :=
 cond (Nat.beq ((r66b x10 x11).1) 0)
  (cond (!((r66b x10 x11).2))
   (0, false)
   (cond (!(r14 (widen x0) (widen x5)))
    (0, false)
    (cond (!(r14 (widen x1) (widen x6)))
     (0, false)
     (cond ((x2 : Int) != x7)
      (0, false)
      (cond ((x3 : Int) != x8)
       (0, false)
       (cond (!(r14 (widen x4) (widen x9)))
        (0, false)
        (0, true)))))))
  (1, false)
noncomputable def a23b (x0 x1 : Nat) (x2 x3 : Int) (x4 x5 x6 : Nat) (x7 x8 : Int) (x9 : Nat) (x10 x11 : List (List Int)) (p : Nat × Bool) : Res := firstT [((Nat.beq (p.1) 0), .bool (p.2), ⟨[⟨true, (some (.tab sc0 x10))⟩, ⟨true, (some (.tab sc0 x11))⟩], 2, []⟩)]
noncomputable def t23b (x0 x1 : Nat) (x2 x3 : Int) (x4 x5 x6 : Nat) (x7 x8 : Int) (x9 : Nat) (x10 x11 : List (List Int)) : Res :=
 (cond (Nat.beq ((r66b x10 x11).1) 0)
 (cond (!((r66b x10 x11).2))
  (some (.bool false, ⟨[⟨true, (some (.tab sc0 x10))⟩, ⟨true, (some (.tab sc0 x11))⟩], 2, []⟩))
  (cond (!(r14 (widen x0) (widen x5)))
   (some (.bool false, ⟨[⟨true, (some (.tab sc0 x10))⟩, ⟨true, (some (.tab sc0 x11))⟩], 2, []⟩))
   (cond (!(r14 (widen x1) (widen x6)))
    (some (.bool false, ⟨[⟨true, (some (.tab sc0 x10))⟩, ⟨true, (some (.tab sc0 x11))⟩], 2, []⟩))
    (cond ((x2 : Int) != x7)
     (some (.bool false, ⟨[⟨true, (some (.tab sc0 x10))⟩, ⟨true, (some (.tab sc0 x11))⟩], 2, []⟩))
     (cond ((x3 : Int) != x8)
      (some (.bool false, ⟨[⟨true, (some (.tab sc0 x10))⟩, ⟨true, (some (.tab sc0 x11))⟩], 2, []⟩))
      (cond (!(r14 (widen x4) (widen x9)))
       (some (.bool false, ⟨[⟨true, (some (.tab sc0 x10))⟩, ⟨true, (some (.tab sc0 x11))⟩], 2, []⟩))
       (some (.bool true, ⟨[⟨true, (some (.tab sc0 x10))⟩, ⟨true, (some (.tab sc0 x11))⟩], 2, []⟩))))))))
 none)
set_option maxRecDepth 100000 in
set_option maxHeartbeats 4000000 in
theorem e23b (x0 x1 : Nat) (x2 x3 : Int) (x4 x5 x6 : Nat) (x7 x8 : Int) (x9 : Nat) (x10 x11 : List (List Int)) : evFn Try.prog ext T33 noL 200 Try.f23 [.agg #[wsl 0, .float .f32 x0, .float .f32 x1, .int .i8 x2, .int .i64 x3, .float .f32 x4], .agg #[wsl 1, .float .f32 x5, .float .f32 x6, .int .i8 x7, .int .i64 x8, .float .f32 x9]] ⟨[⟨true, (some (.tab sc0 x10))⟩, ⟨true, (some (.tab sc0 x11))⟩], 2, []⟩ = firstT [((Nat.beq ((r23b x0 x1 x2 x3 x4 x5 x6 x7 x8 x9 x10 x11).1) 0), .bool ((r23b x0 x1 x2 x3 x4 x5 x6 x7 x8 x9 x10 x11).2), ⟨[⟨true, (some (.tab sc0 x10))⟩, ⟨true, (some (.tab sc0 x11))⟩], 2, []⟩)] :=
 (show evFn Try.prog ext T33 noL 200 Try.f23 [.agg #[wsl 0, .float .f32 x0, .float .f32 x1, .int .i8 x2, .int .i64 x3, .float .f32 x4], .agg #[wsl 1, .float .f32 x5, .float .f32 x6, .int .i8 x7, .int .i64 x8, .float .f32 x9]] ⟨[⟨true, (some (.tab sc0 x10))⟩, ⟨true, (some (.tab sc0 x11))⟩], 2, []⟩ = t23b x0 x1 x2 x3 x4 x5 x6 x7 x8 x9 x10 x11 from by kernel_rfl).trans
 (show t23b x0 x1 x2 x3 x4 x5 x6 x7 x8 x9 x10 x11 = a23b x0 x1 x2 x3 x4 x5 x6 x7 x8 x9 x10 x11 (r23b x0 x1 x2 x3 x4 x5 x6 x7 x8 x9 x10 x11) from (cond_app (a23b x0 x1 x2 x3 x4 x5 x6 x7 x8 x9 x10 x11) _ (cond_app (a23b x0 x1 x2 x3 x4 x5 x6 x7 x8 x9 x10 x11) _ rfl (cond_app (a23b x0 x1 x2 x3 x4 x5 x6 x7 x8 x9 x10 x11) _ rfl (cond_app (a23b x0 x1 x2 x3 x4 x5 x6 x7 x8 x9 x10 x11) _ rfl (cond_app (a23b x0 x1 x2 x3 x4 x5 x6 x7 x8 x9 x10 x11) _ rfl (cond_app (a23b x0 x1 x2 x3 x4 x5 x6 x7 x8 x9 x10 x11) _ rfl (cond_app (a23b x0 x1 x2 x3 x4 x5 x6 x7 x8 x9 x10 x11) _ rfl rfl)))))) rfl))
noncomputable def s23b (args : List Value) (s : St) : List (Bool × Value × St) :=
 match args, s.h with
 | [.agg ⟨[.iface f0 .nilIface, .float .f32 x0, .float .f32 x1, .int .i8 x2, .int .i64 x3, .float .f32 x4]⟩, .agg ⟨[.iface f1 .nilIface, .float .f32 x5, .float .f32 x6, .int .i8 x7, .int .i64 x8, .float .f32 x9]⟩], [⟨true, some (.tab [.fl .f32, .fl .f32, .fl .f32, .fl .f32, .fl .f32, .fl .f32, .fl .f32, .fl .f32, .fl .f32, .fl .f32, .fl .f32, .fl .f32, .fl .f32, .fl .f32, .fl .f32, .fl .f32, .fl .f32, .fl .f32] x10)⟩, ⟨true, some (.tab [.fl .f32, .fl .f32, .fl .f32, .fl .f32, .fl .f32, .fl .f32, .fl .f32, .fl .f32, .fl .f32, .fl .f32, .fl .f32, .fl .f32, .fl .f32, .fl .f32, .fl .f32, .fl .f32, .fl .f32, .fl .f32] x11)⟩] => if f0 = 0 ∧ f1 = 1 then [((Nat.beq ((r23b x0 x1 x2 x3 x4 x5 x6 x7 x8 x9 x10 x11).1) 0), .bool ((r23b x0 x1 x2 x3 x4 x5 x6 x7 x8 x9 x10 x11).2), ⟨[⟨true, (some (.tab sc0 x10))⟩, ⟨true, (some (.tab sc0 x11))⟩], 2, []⟩)] else T33 23 args s
 | _, _ => T33 23 args s
noncomputable def T34 : CallF := addF T33 23 s23b
set_option maxRecDepth 100000 in
set_option maxHeartbeats 4000000 in
theorem ok34 : CfOk Try.prog T34 := by
  refine cfOk_add ok33 fun args s r s' h1 h2 h3 => ?_
  unfold s23b at h3; split at h3
  · rename_i h; split at h3
    · rename_i hc; obtain ⟨rfl, rfl⟩ := hc; exact callOk ok33 Try.func23 h1 h2 h (lfOkF_no _ _).body (e23b _ _ _ _ _ _ _ _ _ _ _ _) rfl h3
    · exact ok33 _ _ _ _ _ h1 h2 h3
  · exact ok33 _ _ _ _ _ h1 h2 h3

/-- laws.markWoodS, loop 1 -/
noncomputable def r68l1 (x0 x1 : Int) (x2 : List (List Int)) : Unit :=
 ()
noncomputable def a68l1 (x0 x1 : Int) (x2 : List (List Int)) (p : Unit) : Option (Fin' × List Value × St) := firstT ([(true, .exit 2, [wsl 0, .int .i64 x0, .int .i64 x1], ⟨[⟨true, (some (.tab sc0 x2))⟩], 1, []⟩)].map fun (b, x) => (b, (x.1, frameOf 58 [0, 1, 5] x.2.1, x.2.2)))
noncomputable def t68l1 (x0 x1 : Int) (x2 : List (List Int)) : Option (Fin' × List Value × St) :=
 (some (.exit 2, frameOf 58 [0, 1, 5] [wsl 0, .int .i64 x0, .int .i64 x1], ⟨[⟨true, (some (.tab sc0 x2))⟩], 1, []⟩))
set_option maxRecDepth 100000 in
set_option maxHeartbeats 4000000 in
theorem e68l1 (x0 x1 : Int) (x2 : List (List Int)) : evC Try.prog ext T34 noL 200 (loopN Try.f68 1) (loopTail [0, 1, 5, 6] [0, 1, 5] [] (sumK 58 [0, 1, 5, 6] [0, 1, 5] noQ)) (frameOf 58 [0, 1, 5, 6] [wsl 0, .int .i64 x0, .int .i64 x1, .int .i64 6]) ⟨[⟨true, (some (.tab sc0 x2))⟩], 1, []⟩ = firstT ([(true, .exit 2, [wsl 0, .int .i64 x0, .int .i64 x1], ⟨[⟨true, (some (.tab sc0 x2))⟩], 1, []⟩)].map fun (b, x) => (b, (x.1, frameOf 58 [0, 1, 5] x.2.1, x.2.2))) :=
 (show evC Try.prog ext T34 noL 200 (loopN Try.f68 1) (loopTail [0, 1, 5, 6] [0, 1, 5] [] (sumK 58 [0, 1, 5, 6] [0, 1, 5] noQ)) (frameOf 58 [0, 1, 5, 6] [wsl 0, .int .i64 x0, .int .i64 x1, .int .i64 6]) ⟨[⟨true, (some (.tab sc0 x2))⟩], 1, []⟩ = t68l1 x0 x1 x2 from by kernel_rfl).trans
 (show t68l1 x0 x1 x2 = a68l1 x0 x1 x2 (r68l1 x0 x1 x2) from rfl)
noncomputable def Q68l1 : SumK := fun vals s =>
 match vals, s.h with
 | [.iface f0 .nilIface, .int .i64 x0, .int .i64 x1, .int .i64 f1], [⟨true, some (.tab [.fl .f32, .fl .f32, .fl .f32, .fl .f32, .fl .f32, .fl .f32, .fl .f32, .fl .f32, .fl .f32, .fl .f32, .fl .f32, .fl .f32, .fl .f32, .fl .f32, .fl .f32, .fl .f32, .fl .f32, .fl .f32] x2)⟩] => if f0 = 0 ∧ f1 = 6 then [(true, .exit 2, [wsl 0, .int .i64 x0, .int .i64 x1], ⟨[⟨true, (some (.tab sc0 x2))⟩], 1, []⟩)] else noQ vals s
 | _, _ => noQ vals s
set_option maxRecDepth 100000 in
set_option maxHeartbeats 4000000 in
theorem qok68l1 : SumKOk Try.prog (loopN Try.f68 1) 58 [0, 1, 5, 6] [0, 1, 5] Q68l1 := by
  intro vals s x h1 h2 h3
  unfold Q68l1 at h3; split at h3
  · rename_i h; split at h3
    · rename_i hc; obtain ⟨rfl, rfl⟩ := hc; exact sum_step ok34 extOk mixed ((lfOkF_no _ _).inner (by kernel_rfl)) noQ_ok h1 h2 h (e68l1 _ _ _) rfl h3
    · exact noQ_ok _ _ _ h1 h2 h3
  · exact noQ_ok _ _ _ h1 h2 h3
noncomputable def L68_1 : LoopT := addL noL 6 [0, 1, 5, 6] (sumK 58 [0, 1, 5, 6] [0, 1, 5] Q68l1)
theorem lok68_1 : LfOkF Try.prog L68_1 Try.f68 := lfOkF_add (lfOkF_no _ _) qok68l1 (by kernel_rfl) (by kernel_rfl) (by kernel_rfl)

/-- laws.markWoodS, loop 1 -/
noncomputable def r68l1b (x0 x1 : Int) (x2 : List (List Int)) : Nat × Int × List (List Int) :=
 cond ((decide ((0 : Int) ≤ x1)) && (Nat.blt (Int.toNat x1) x2.length))
  (0, (IntKind.i64.wrap (x0 + 1)), (x2.modify (Int.toNat x1) (fun r => spl 18 r 5 [(((ofInt .f32 x0) : Nat) : Int)])))
  (1, 0, [])
noncomputable def a68l1b (x0 x1 : Int) (x2 : List (List Int)) (p : Nat × Int × List (List Int)) : Option (Fin' × List Value × St) := firstT ([((Nat.beq (p.1) 0), .exit 2, [wsl 0, .int .i64 (p.2.1), .int .i64 x1], ⟨[⟨true, (some (.tab sc0 (p.2.2)))⟩], 1, [0]⟩)].map fun (b, x) => (b, (x.1, frameOf 58 [0, 1, 5] x.2.1, x.2.2)))
noncomputable def t68l1b (x0 x1 : Int) (x2 : List (List Int)) : Option (Fin' × List Value × St) :=
 (cond ((decide ((0 : Int) ≤ x1)) && (Nat.blt (Int.toNat x1) x2.length))
 (some (.exit 2, frameOf 58 [0, 1, 5] [wsl 0, .int .i64 (IntKind.i64.wrap (x0 + 1)), .int .i64 x1], ⟨[⟨true, (some (.tab sc0 (x2.modify (Int.toNat x1) (fun r => spl 18 r 5 [(((ofInt .f32 x0) : Nat) : Int)]))))⟩], 1, [0]⟩))
 none)
noncomputable def w68l1b (x0 x1 : Int) (x2 : List (List Int)) : Option (Fin' × List Value × St) :=
 (cond ((decide ((0 : Int) ≤ x1)) && (Nat.blt (Int.toNat x1) x2.length))
 (cond (Nat.blt (Int.toNat x1) x2.length)
  (some (.exit 2, frameOf 58 [0, 1, 5] [wsl 0, .int .i64 (IntKind.i64.wrap (x0 + 1)), .int .i64 x1], ⟨[⟨true, (some (.tab sc0 (x2.modify (Int.toNat x1) (fun r => spl 18 r 5 [(((ofInt .f32 x0) : Nat) : Int)]))))⟩], 1, [0]⟩))
  none)
 none)
set_option maxRecDepth 100000 in
set_option maxHeartbeats 4000000 in
theorem e68l1b (x0 x1 : Int) (x2 : List (List Int)) : evC Try.prog ext T34 L68_1 200 (loopN Try.f68 1) (loopTail [0, 1, 5, 6] [0, 1, 5] [] (sumK 58 [0, 1, 5, 6] [0, 1, 5] Q68l1)) (frameOf 58 [0, 1, 5, 6] [wsl 0, .int .i64 x0, .int .i64 x1, .int .i64 5]) ⟨[⟨true, (some (.tab sc0 x2))⟩], 1, []⟩ = firstT ([((Nat.beq ((r68l1b x0 x1 x2).1) 0), .exit 2, [wsl 0, .int .i64 ((r68l1b x0 x1 x2).2.1), .int .i64 x1], ⟨[⟨true, (some (.tab sc0 ((r68l1b x0 x1 x2).2.2)))⟩], 1, [0]⟩)].map fun (b, x) => (b, (x.1, frameOf 58 [0, 1, 5] x.2.1, x.2.2))) :=
 (show evC Try.prog ext T34 L68_1 200 (loopN Try.f68 1) (loopTail [0, 1, 5, 6] [0, 1, 5] [] (sumK 58 [0, 1, 5, 6] [0, 1, 5] Q68l1)) (frameOf 58 [0, 1, 5, 6] [wsl 0, .int .i64 x0, .int .i64 x1, .int .i64 5]) ⟨[⟨true, (some (.tab sc0 x2))⟩], 1, []⟩ = w68l1b x0 x1 x2 from by kernel_rfl).trans
 ((show w68l1b x0 x1 x2 = t68l1b x0 x1 x2 from (cond_cong _ (fun h0 => (cond_t (ev_and2 h0) rfl)) (fun h0 => rfl))).trans
 (show t68l1b x0 x1 x2 = a68l1b x0 x1 x2 (r68l1b x0 x1 x2) from (cond_app (a68l1b x0 x1 x2) _ rfl rfl)))
noncomputable def Q68l1b : SumK := fun vals s =>
 match vals, s.h with
 | [.iface f0 .nilIface, .int .i64 x0, .int .i64 x1, .int .i64 f1], [⟨true, some (.tab [.fl .f32, .fl .f32, .fl .f32, .fl .f32, .fl .f32, .fl .f32, .fl .f32, .fl .f32, .fl .f32, .fl .f32, .fl .f32, .fl .f32, .fl .f32, .fl .f32, .fl .f32, .fl .f32, .fl .f32, .fl .f32] x2)⟩] => if f0 = 0 ∧ f1 = 5 then [((Nat.beq ((r68l1b x0 x1 x2).1) 0), .exit 2, [wsl 0, .int .i64 ((r68l1b x0 x1 x2).2.1), .int .i64 x1], ⟨[⟨true, (some (.tab sc0 ((r68l1b x0 x1 x2).2.2)))⟩], 1, [0]⟩)] else Q68l1 vals s
 | _, _ => Q68l1 vals s
set_option maxRecDepth 100000 in
set_option maxHeartbeats 4000000 in
theorem qok68l1b : SumKOk Try.prog (loopN Try.f68 1) 58 [0, 1, 5, 6] [0, 1, 5] Q68l1b := by
  intro vals s x h1 h2 h3
  unfold Q68l1b at h3; split at h3
  · rename_i h; split at h3
    · rename_i hc; obtain ⟨rfl, rfl⟩ := hc; exact sum_step ok34 extOk mixed (lok68_1.inner (by kernel_rfl)) qok68l1 h1 h2 h (e68l1b _ _ _) rfl h3
    · exact qok68l1 _ _ _ h1 h2 h3
  · exact qok68l1 _ _ _ h1 h2 h3
noncomputable def L68_2 : LoopT := addL L68_1 6 [0, 1, 5, 6] (sumK 58 [0, 1, 5, 6] [0, 1, 5] Q68l1b)
theorem lok68_2 : LfOkF Try.prog L68_2 Try.f68 := lfOkF_add lok68_1 qok68l1b (by kernel_rfl) (by kernel_rfl) (by kernel_rfl)

/-- laws.markWoodS, loop 1 -/
noncomputable def r68l1c (x0 x1 : Int) (x2 : List (List Int)) : Nat × Int × List (List Int) :=
 let c70 := (r68l1b (IntKind.i64.wrap (x0 + 1)) x1 (x2.modify (Int.toNat x1) (fun r => spl 18 r 4 [(((ofInt .f32 x0) : Nat) : Int)])))
 cond ((decide ((0 : Int) ≤ x1)) && (Nat.blt (Int.toNat x1) x2.length))
  (cond (Nat.beq (c70.1) 0)
   (0, (c70.2.1), (c70.2.2))
   (1, 0, []))
  (1, 0, [])
noncomputable def a68l1c (x0 x1 : Int) (x2 : List (List Int)) (p : Nat × Int × List (List Int)) : Option (Fin' × List Value × St) := firstT ([((Nat.beq (p.1) 0), .exit 2, [wsl 0, .int .i64 (p.2.1), .int .i64 x1], ⟨[⟨true, (some (.tab sc0 (p.2.2)))⟩], 1, [0]⟩)].map fun (b, x) => (b, (x.1, frameOf 58 [0, 1, 5] x.2.1, x.2.2)))
noncomputable def t68l1c (x0 x1 : Int) (x2 : List (List Int)) : Option (Fin' × List Value × St) :=
 let c70 := (r68l1b (IntKind.i64.wrap (x0 + 1)) x1 (x2.modify (Int.toNat x1) (fun r => spl 18 r 4 [(((ofInt .f32 x0) : Nat) : Int)])))
 (cond ((decide ((0 : Int) ≤ x1)) && (Nat.blt (Int.toNat x1) x2.length))
 (cond (Nat.beq (c70.1) 0)
  (some (.exit 2, frameOf 58 [0, 1, 5] [wsl 0, .int .i64 (c70.2.1), .int .i64 x1], ⟨[⟨true, (some (.tab sc0 (c70.2.2)))⟩], 1, [0]⟩))
  none)
 none)
noncomputable def w68l1c (x0 x1 : Int) (x2 : List (List Int)) : Option (Fin' × List Value × St) :=
 let c70 := (r68l1b (IntKind.i64.wrap (x0 + 1)) x1 (x2.modify (Int.toNat x1) (fun r => spl 18 r 4 [(((ofInt .f32 x0) : Nat) : Int)])))
 (cond ((decide ((0 : Int) ≤ x1)) && (Nat.blt (Int.toNat x1) x2.length))
 (cond (Nat.blt (Int.toNat x1) x2.length)
  (cond (Nat.beq (c70.1) 0)
   (some (.exit 2, frameOf 58 [0, 1, 5] [wsl 0, .int .i64 (c70.2.1), .int .i64 x1], ⟨[⟨true, (some (.tab sc0 (c70.2.2)))⟩], 1, [0]⟩))
   none)
  none)
 none)
set_option maxRecDepth 100000 in
set_option maxHeartbeats 4000000 in
theorem e68l1c (x0 x1 : Int) (x2 : List (List Int)) : evC Try.prog ext T34 L68_2 200 (loopN Try.f68 1) (loopTail [0, 1, 5, 6] [0, 1, 5] [] (sumK 58 [0, 1, 5, 6] [0, 1, 5] Q68l1b)) (frameOf 58 [0, 1, 5, 6] [wsl 0, .int .i64 x0, .int .i64 x1, .int .i64 4]) ⟨[⟨true, (some (.tab sc0 x2))⟩], 1, []⟩ = firstT ([((Nat.beq ((r68l1c x0 x1 x2).1) 0), .exit 2, [wsl 0, .int .i64 ((r68l1c x0 x1 x2).2.1), .int .i64 x1], ⟨[⟨true, (some (.tab sc0 ((r68l1c x0 x1 x2).2.2)))⟩], 1, [0]⟩)].map fun (b, x) => (b, (x.1, frameOf 58 [0, 1, 5] x.2.1, x.2.2))) :=
 (show evC Try.prog ext T34 L68_2 200 (loopN Try.f68 1) (loopTail [0, 1, 5, 6] [0, 1, 5] [] (sumK 58 [0, 1, 5, 6] [0, 1, 5] Q68l1b)) (frameOf 58 [0, 1, 5, 6] [wsl 0, .int .i64 x0, .int .i64 x1, .int .i64 4]) ⟨[⟨true, (some (.tab sc0 x2))⟩], 1, []⟩ = w68l1c x0 x1 x2 from by kernel_rfl).trans
 ((show w68l1c x0 x1 x2 = t68l1c x0 x1 x2 from (cond_cong _ (fun h0 => (cond_t (ev_and2 h0) rfl)) (fun h0 => rfl))).trans
 (show t68l1c x0 x1 x2 = a68l1c x0 x1 x2 (r68l1c x0 x1 x2) from (cond_app (a68l1c x0 x1 x2) _ (cond_app (a68l1c x0 x1 x2) _ rfl rfl) rfl)))
noncomputable def Q68l1c : SumK := fun vals s =>
 match vals, s.h with
 | [.iface f0 .nilIface, .int .i64 x0, .int .i64 x1, .int .i64 f1], [⟨true, some (.tab [.fl .f32, .fl .f32, .fl .f32, .fl .f32, .fl .f32, .fl .f32, .fl .f32, .fl .f32, .fl .f32, .fl .f32, .fl .f32, .fl .f32, .fl .f32, .fl .f32, .fl .f32, .fl .f32, .fl .f32, .fl .f32] x2)⟩] => if f0 = 0 ∧ f1 = 4 then [((Nat.beq ((r68l1c x0 x1 x2).1) 0), .exit 2, [wsl 0, .int .i64 ((r68l1c x0 x1 x2).2.1), .int .i64 x1], ⟨[⟨true, (some (.tab sc0 ((r68l1c x0 x1 x2).2.2)))⟩], 1, [0]⟩)] else Q68l1b vals s
 | _, _ => Q68l1b vals s
set_option maxRecDepth 100000 in
set_option maxHeartbeats 4000000 in
theorem qok68l1c : SumKOk Try.prog (loopN Try.f68 1) 58 [0, 1, 5, 6] [0, 1, 5] Q68l1c := by
  intro vals s x h1 h2 h3
  unfold Q68l1c at h3; split at h3
  · rename_i h; split at h3
    · rename_i hc; obtain ⟨rfl, rfl⟩ := hc; exact sum_step ok34 extOk mixed (lok68_2.inner (by kernel_rfl)) qok68l1b h1 h2 h (e68l1c _ _ _) rfl h3
    · exact qok68l1b _ _ _ h1 h2 h3
  · exact qok68l1b _ _ _ h1 h2 h3
noncomputable def L68_3 : LoopT := addL L68_2 6 [0, 1, 5, 6] (sumK 58 [0, 1, 5, 6] [0, 1, 5] Q68l1c)
theorem lok68_3 : LfOkF Try.prog L68_3 Try.f68 := lfOkF_add lok68_2 qok68l1c (by kernel_rfl) (by kernel_rfl) (by kernel_rfl)

/-- laws.markWoodS, loop 1 -/
noncomputable def r68l1d (x0 x1 : Int) (x2 : List (List Int)) : Nat × Int × List (List Int) :=
 let c71 := (r68l1c (IntKind.i64.wrap (x0 + 1)) x1 (x2.modify (Int.toNat x1) (fun r => spl 18 r 3 [(((ofInt .f32 x0) : Nat) : Int)])))
 cond ((decide ((0 : Int) ≤ x1)) && (Nat.blt (Int.toNat x1) x2.length))
  (cond (Nat.beq (c71.1) 0)
   (0, (c71.2.1), (c71.2.2))
   (1, 0, []))
  (1, 0, [])
noncomputable def a68l1d (x0 x1 : Int) (x2 : List (List Int)) (p : Nat × Int × List (List Int)) : Option (Fin' × List Value × St) := firstT ([((Nat.beq (p.1) 0), .exit 2, [wsl 0, .int .i64 (p.2.1), .int .i64 x1], ⟨[⟨true, (some (.tab sc0 (p.2.2)))⟩], 1, [0]⟩)].map fun (b, x) => (b, (x.1, frameOf 58 [0, 1, 5] x.2.1, x.2.2)))
noncomputable def t68l1d (x0 x1 : Int) (x2 : List (List Int)) : Option (Fin' × List Value × St) :=
 let c71 := (r68l1c (IntKind.i64.wrap (x0 + 1)) x1 (x2.modify (Int.toNat x1) (fun r => spl 18 r 3 [(((ofInt .f32 x0) : Nat) : Int)])))
 (cond ((decide ((0 : Int) ≤ x1)) && (Nat.blt (Int.toNat x1) x2.length))
 (cond (Nat.beq (c71.1) 0)
  (some (.exit 2, frameOf 58 [0, 1, 5] [wsl 0, .int .i64 (c71.2.1), .int .i64 x1], ⟨[⟨true, (some (.tab sc0 (c71.2.2)))⟩], 1, [0]⟩))
  none)
 none)
noncomputable def w68l1d (x0 x1 : Int) (x2 : List (List Int)) : Option (Fin' × List Value × St) :=
 let c71 := (r68l1c (IntKind.i64.wrap (x0 + 1)) x1 (x2.modify (Int.toNat x1) (fun r => spl 18 r 3 [(((ofInt .f32 x0) : Nat) : Int)])))
 (cond ((decide ((0 : Int) ≤ x1)) && (Nat.blt (Int.toNat x1) x2.length))
 (cond (Nat.blt (Int.toNat x1) x2.length)
  (cond (Nat.beq (c71.1) 0)
   (some (.exit 2, frameOf 58 [0, 1, 5] [wsl 0, .int .i64 (c71.2.1), .int .i64 x1], ⟨[⟨true, (some (.tab sc0 (c71.2.2)))⟩], 1, [0]⟩))
   none)
  none)
 none)
set_option maxRecDepth 100000 in
set_option maxHeartbeats 4000000 in
theorem e68l1d (x0 x1 : Int) (x2 : List (List Int)) : evC Try.prog ext T34 L68_3 200 (loopN Try.f68 1) (loopTail [0, 1, 5, 6] [0, 1, 5] [] (sumK 58 [0, 1, 5, 6] [0, 1, 5] Q68l1c)) (frameOf 58 [0, 1, 5, 6] [wsl 0, .int .i64 x0, .int .i64 x1, .int .i64 3]) ⟨[⟨true, (some (.tab sc0 x2))⟩], 1, []⟩ = firstT ([((Nat.beq ((r68l1d x0 x1 x2).1) 0), .exit 2, [wsl 0, .int .i64 ((r68l1d x0 x1 x2).2.1), .int .i64 x1], ⟨[⟨true, (some (.tab sc0 ((r68l1d x0 x1 x2).2.2)))⟩], 1, [0]⟩)].map fun (b, x) => (b, (x.1, frameOf 58 [0, 1, 5] x.2.1, x.2.2))) :=
 (show evC Try.prog ext T34 L68_3 200 (loopN Try.f68 1) (loopTail [0, 1, 5, 6] [0, 1, 5] [] (sumK 58 [0, 1, 5, 6] [0, 1, 5] Q68l1c)) (frameOf 58 [0, 1, 5, 6] [wsl 0, .int .i64 x0, .int .i64 x1, .int .i64 3]) ⟨[⟨true, (some (.tab sc0 x2))⟩], 1, []⟩ = w68l1d x0 x1 x2 from by kernel_rfl).trans
 ((show w68l1d x0 x1 x2 = t68l1d x0 x1 x2 from (cond_cong _ (fun h0 => (cond_t (ev_and2 h0) rfl)) (fun h0 => rfl))).trans
 (show t68l1d x0 x1 x2 = a68l1d x0 x1 x2 (r68l1d x0 x1 x2) from (cond_app (a68l1d x0 x1 x2) _ (cond_app (a68l1d x0 x1 x2) _ rfl rfl) rfl)))
noncomputable def Q68l1d : SumK := fun vals s =>
 match vals, s.h with
 | [.iface f0 .nilIface, .int .i64 x0, .int .i64 x1, .int .i64 f1], [⟨true, some (.tab [.fl .f32, .fl .f32, .fl .f32, .fl .f32, .fl .f32, .fl .f32, .fl .f32, .fl .f32, .fl .f32, .fl .f32, .fl .f32, .fl .f32, .fl .f32, .fl .f32, .fl .f32, .fl .f32, .fl .f32, .fl .f32] x2)⟩] => if f0 = 0 ∧ f1 = 3 then [((Nat.beq ((r68l1d x0 x1 x2).1) 0), .exit 2, [wsl 0, .int .i64 ((r68l1d x0 x1 x2).2.1), .int .i64 x1], ⟨[⟨true, (some (.tab sc0 ((r68l1d x0 x1 x2).2.2)))⟩], 1, [0]⟩)] else Q68l1c vals s
 | _, _ => Q68l1c vals s
set_option maxRecDepth 100000 in
set_option maxHeartbeats 4000000 in
theorem qok68l1d : SumKOk Try.prog (loopN Try.f68 1) 58 [0, 1, 5, 6] [0, 1, 5] Q68l1d := by
  intro vals s x h1 h2 h3
  unfold Q68l1d at h3; split at h3
  · rename_i h; split at h3
    · rename_i hc; obtain ⟨rfl, rfl⟩ := hc; exact sum_step ok34 extOk mixed (lok68_3.inner (by kernel_rfl)) qok68l1c h1 h2 h (e68l1d _ _ _) rfl h3
    · exact qok68l1c _ _ _ h1 h2 h3
  · exact qok68l1c _ _ _ h1 h2 h3
noncomputable def L68_4 : LoopT := addL L68_3 6 [0, 1, 5, 6] (sumK 58 [0, 1, 5, 6] [0, 1, 5] Q68l1d)
theorem lok68_4 : LfOkF Try.prog L68_4 Try.f68 := lfOkF_add lok68_3 qok68l1d (by kernel_rfl) (by kernel_rfl) (by kernel_rfl)

/-- laws.markWoodS, loop 1 -/
noncomputable def r68l1e (x0 x1 : Int) (x2 : List (List Int)) : Nat × Int × List (List Int) :=
 let c72 := (r68l1d (IntKind.i64.wrap (x0 + 1)) x1 (x2.modify (Int.toNat x1) (fun r => spl 18 r 2 [(((ofInt .f32 x0) : Nat) : Int)])))
 cond ((decide ((0 : Int) ≤ x1)) && (Nat.blt (Int.toNat x1) x2.length))
  (cond (Nat.beq (c72.1) 0)
   (0, (c72.2.1), (c72.2.2))
   (1, 0, []))
  (1, 0, [])
noncomputable def a68l1e (x0 x1 : Int) (x2 : List (List Int)) (p : Nat × Int × List (List Int)) : Option (Fin' × List Value × St) := firstT ([((Nat.beq (p.1) 0), .exit 2, [wsl 0, .int .i64 (p.2.1), .int .i64 x1], ⟨[⟨true, (some (.tab sc0 (p.2.2)))⟩], 1, [0]⟩)].map fun (b, x) => (b, (x.1, frameOf 58 [0, 1, 5] x.2.1, x.2.2)))
noncomputable def t68l1e (x0 x1 : Int) (x2 : List (List Int)) : Option (Fin' × List Value × St) :=
 let c72 := (r68l1d (IntKind.i64.wrap (x0 + 1)) x1 (x2.modify (Int.toNat x1) (fun r => spl 18 r 2 [(((ofInt .f32 x0) : Nat) : Int)])))
 (cond ((decide ((0 : Int) ≤ x1)) && (Nat.blt (Int.toNat x1) x2.length))
 (cond (Nat.beq (c72.1) 0)
  (some (.exit 2, frameOf 58 [0, 1, 5] [wsl 0, .int .i64 (c72.2.1), .int .i64 x1], ⟨[⟨true, (some (.tab sc0 (c72.2.2)))⟩], 1, [0]⟩))
  none)
 none)
noncomputable def w68l1e (x0 x1 : Int) (x2 : List (List Int)) : Option (Fin' × List Value × St) :=
 let c72 := (r68l1d (IntKind.i64.wrap (x0 + 1)) x1 (x2.modify (Int.toNat x1) (fun r => spl 18 r 2 [(((ofInt .f32 x0) : Nat) : Int)])))
 (cond ((decide ((0 : Int) ≤ x1)) && (Nat.blt (Int.toNat x1) x2.length))
 (cond (Nat.blt (Int.toNat x1) x2.length)
  (cond (Nat.beq (c72.1) 0)
   (some (.exit 2, frameOf 58 [0, 1, 5] [wsl 0, .int .i64 (c72.2.1), .int .i64 x1], ⟨[⟨true, (some (.tab sc0 (c72.2.2)))⟩], 1, [0]⟩))
   none)
  none)
 none)
set_option maxRecDepth 100000 in
set_option maxHeartbeats 4000000 in
theorem e68l1e (x0 x1 : Int) (x2 : List (List Int)) : evC Try.prog ext T34 L68_4 200 (loopN Try.f68 1) (loopTail [0, 1, 5, 6] [0, 1, 5] [] (sumK 58 [0, 1, 5, 6] [0, 1, 5] Q68l1d)) (frameOf 58 [0, 1, 5, 6] [wsl 0, .int .i64 x0, .int .i64 x1, .int .i64 2]) ⟨[⟨true, (some (.tab sc0 x2))⟩], 1, []⟩ = firstT ([((Nat.beq ((r68l1e x0 x1 x2).1) 0), .exit 2, [wsl 0, .int .i64 ((r68l1e x0 x1 x2).2.1), .int .i64 x1], ⟨[⟨true, (some (.tab sc0 ((r68l1e x0 x1 x2).2.2)))⟩], 1, [0]⟩)].map fun (b, x) => (b, (x.1, frameOf 58 [0, 1, 5] x.2.1, x.2.2))) :=
 (show evC Try.prog ext T34 L68_4 200 (loopN Try.f68 1) (loopTail [0, 1, 5, 6] [0, 1, 5] [] (sumK 58 [0, 1, 5, 6] [0, 1, 5] Q68l1d)) (frameOf 58 [0, 1, 5, 6] [wsl 0, .int .i64 x0, .int .i64 x1, .int .i64 2]) ⟨[⟨true, (some (.tab sc0 x2))⟩], 1, []⟩ = w68l1e x0 x1 x2 from by kernel_rfl).trans
 ((show w68l1e x0 x1 x2 = t68l1e x0 x1 x2 from (cond_cong _ (fun h0 => (cond_t (ev_and2 h0) rfl)) (fun h0 => rfl))).trans
 (show t68l1e x0 x1 x2 = a68l1e x0 x1 x2 (r68l1e x0 x1 x2) from (cond_app (a68l1e x0 x1 x2) _ (cond_app (a68l1e x0 x1 x2) _ rfl rfl) rfl)))
noncomputable def Q68l1e : SumK := fun vals s =>
 match vals, s.h with
 | [.iface f0 .nilIface, .int .i64 x0, .int .i64 x1, .int .i64 f1], [⟨true, some (.tab [.fl .f32, .fl .f32, .fl .f32, .fl .f32, .fl .f32, .fl .f32, .fl .f32, .fl .f32, .fl .f32, .fl .f32, .fl .f32, .fl .f32, .fl .f32, .fl .f32, .fl .f32, .fl .f32, .fl .f32, .fl .f32] x2)⟩] => if f0 = 0 ∧ f1 = 2 then [((Nat.beq ((r68l1e x0 x1 x2).1) 0), .exit 2, [wsl 0, .int .i64 ((r68l1e x0 x1 x2).2.1), .int .i64 x1], ⟨[⟨true, (some (.tab sc0 ((r68l1e x0 x1 x2).2.2)))⟩], 1, [0]⟩)] else Q68l1d vals s
 | _, _ => Q68l1d vals s
set_option maxRecDepth 100000 in
set_option maxHeartbeats 4000000 in
theorem qok68l1e : SumKOk Try.prog (loopN Try.f68 1) 58 [0, 1, 5, 6] [0, 1, 5] Q68l1e := by
  intro vals s x h1 h2 h3
  unfold Q68l1e at h3; split at h3
  · rename_i h; split at h3
    · rename_i hc; obtain ⟨rfl, rfl⟩ := hc; exact sum_step ok34 extOk mixed (lok68_4.inner (by kernel_rfl)) qok68l1d h1 h2 h (e68l1e _ _ _) rfl h3
    · exact qok68l1d _ _ _ h1 h2 h3
  · exact qok68l1d _ _ _ h1 h2 h3
noncomputable def L68_5 : LoopT := addL L68_4 6 [0, 1, 5, 6] (sumK 58 [0, 1, 5, 6] [0, 1, 5] Q68l1e)
theorem lok68_5 : LfOkF Try.prog L68_5 Try.f68 := lfOkF_add lok68_4 qok68l1e (by kernel_rfl) (by kernel_rfl) (by kernel_rfl)

/-- laws.markWoodS, loop 1 -/
noncomputable def r68l1f (x0 x1 : Int) (x2 : List (List Int)) : Nat × Int × List (List Int) :=
 let c73 := (r68l1e (IntKind.i64.wrap (x0 + 1)) x1 (x2.modify (Int.toNat x1) (fun r => spl 18 r 1 [(((ofInt .f32 x0) : Nat) : Int)])))
 cond ((decide ((0 : Int) ≤ x1)) && (Nat.blt (Int.toNat x1) x2.length))
  (cond (Nat.beq (c73.1) 0)
   (0, (c73.2.1), (c73.2.2))
   (1, 0, []))
  (1, 0, [])
noncomputable def a68l1f (x0 x1 : Int) (x2 : List (List Int)) (p : Nat × Int × List (List Int)) : Option (Fin' × List Value × St) := firstT ([((Nat.beq (p.1) 0), .exit 2, [wsl 0, .int .i64 (p.2.1), .int .i64 x1], ⟨[⟨true, (some (.tab sc0 (p.2.2)))⟩], 1, [0]⟩)].map fun (b, x) => (b, (x.1, frameOf 58 [0, 1, 5] x.2.1, x.2.2)))
noncomputable def t68l1f (x0 x1 : Int) (x2 : List (List Int)) : Option (Fin' × List Value × St) :=
 let c73 := (r68l1e (IntKind.i64.wrap (x0 + 1)) x1 (x2.modify (Int.toNat x1) (fun r => spl 18 r 1 [(((ofInt .f32 x0) : Nat) : Int)])))
 (cond ((decide ((0 : Int) ≤ x1)) && (Nat.blt (Int.toNat x1) x2.length))
 (cond (Nat.beq (c73.1) 0)
  (some (.exit 2, frameOf 58 [0, 1, 5] [wsl 0, .int .i64 (c73.2.1), .int .i64 x1], ⟨[⟨true, (some (.tab sc0 (c73.2.2)))⟩], 1, [0]⟩))
  none)
 none)
noncomputable def w68l1f (x0 x1 : Int) (x2 : List (List Int)) : Option (Fin' × List Value × St) :=
 let c73 := (r68l1e (IntKind.i64.wrap (x0 + 1)) x1 (x2.modify (Int.toNat x1) (fun r => spl 18 r 1 [(((ofInt .f32 x0) : Nat) : Int)])))
 (cond ((decide ((0 : Int) ≤ x1)) && (Nat.blt (Int.toNat x1) x2.length))
 (cond (Nat.blt (Int.toNat x1) x2.length)
  (cond (Nat.beq (c73.1) 0)
   (some (.exit 2, frameOf 58 [0, 1, 5] [wsl 0, .int .i64 (c73.2.1), .int .i64 x1], ⟨[⟨true, (some (.tab sc0 (c73.2.2)))⟩], 1, [0]⟩))
   none)
  none)
 none)
set_option maxRecDepth 100000 in
set_option maxHeartbeats 4000000 in
theorem e68l1f (x0 x1 : Int) (x2 : List (List Int)) : evC Try.prog ext T34 L68_5 200 (loopN Try.f68 1) (loopTail [0, 1, 5, 6] [0, 1, 5] [] (sumK 58 [0, 1, 5, 6] [0, 1, 5] Q68l1e)) (frameOf 58 [0, 1, 5, 6] [wsl 0, .int .i64 x0, .int .i64 x1, .int .i64 1]) ⟨[⟨true, (some (.tab sc0 x2))⟩], 1, []⟩ = firstT ([((Nat.beq ((r68l1f x0 x1 x2).1) 0), .exit 2, [wsl 0, .int .i64 ((r68l1f x0 x1 x2).2.1), .int .i64 x1], ⟨[⟨true, (some (.tab sc0 ((r68l1f x0 x1 x2).2.2)))⟩], 1, [0]⟩)].map fun (b, x) => (b, (x.1, frameOf 58 [0, 1, 5] x.2.1, x.2.2))) :=
 (show evC Try.prog ext T34 L68_5 200 (loopN Try.f68 1) (loopTail [0, 1, 5, 6] [0, 1, 5] [] (sumK 58 [0, 1, 5, 6] [0, 1, 5] Q68l1e)) (frameOf 58 [0, 1, 5, 6] [wsl 0, .int .i64 x0, .int .i64 x1, .int .i64 1]) ⟨[⟨true, (some (.tab sc0 x2))⟩], 1, []⟩ = w68l1f x0 x1 x2 from by kernel_rfl).trans
 ((show w68l1f x0 x1 x2 = t68l1f x0 x1 x2 from (cond_cong _ (fun h0 => (cond_t (ev_and2 h0) rfl)) (fun h0 => rfl))).trans
 (show t68l1f x0 x1 x2 = a68l1f x0 x1 x2 (r68l1f x0 x1 x2) from (cond_app (a68l1f x0 x1 x2) _ (cond_app (a68l1f x0 x1 x2) _ rfl rfl) rfl)))
noncomputable def Q68l1f : SumK := fun vals s =>
 match vals, s.h with
 | [.iface f0 .nilIface, .int .i64 x0, .int .i64 x1, .int .i64 f1], [⟨true, some (.tab [.fl .f32, .fl .f32, .fl .f32, .fl .f32, .fl .f32, .fl .f32, .fl .f32, .fl .f32, .fl .f32, .fl .f32, .fl .f32, .fl .f32, .fl .f32, .fl .f32, .fl .f32, .fl .f32, .fl .f32, .fl .f32] x2)⟩] => if f0 = 0 ∧ f1 = 1 then [((Nat.beq ((r68l1f x0 x1 x2).1) 0), .exit 2, [wsl 0, .int .i64 ((r68l1f x0 x1 x2).2.1), .int .i64 x1], ⟨[⟨true, (some (.tab sc0 ((r68l1f x0 x1 x2).2.2)))⟩], 1, [0]⟩)] else Q68l1e vals s
 | _, _ => Q68l1e vals s
set_option maxRecDepth 100000 in
set_option maxHeartbeats 4000000 in
theorem qok68l1f : SumKOk Try.prog (loopN Try.f68 1) 58 [0, 1, 5, 6] [0, 1, 5] Q68l1f := by
  intro vals s x h1 h2 h3
  unfold Q68l1f at h3; split at h3
  · rename_i h; split at h3
    · rename_i hc; obtain ⟨rfl, rfl⟩ := hc; exact sum_step ok34 extOk mixed (lok68_5.inner (by kernel_rfl)) qok68l1e h1 h2 h (e68l1f _ _ _) rfl h3
    · exact qok68l1e _ _ _ h1 h2 h3
  · exact qok68l1e _ _ _ h1 h2 h3
noncomputable def L68_6 : LoopT := addL L68_5 6 [0, 1, 5, 6] (sumK 58 [0, 1, 5, 6] [0, 1, 5] Q68l1f)
theorem lok68_6 : LfOkF Try.prog L68_6 Try.f68 := lfOkF_add lok68_5 qok68l1f (by kernel_rfl) (by kernel_rfl) (by kernel_rfl)

/-- laws.markWoodS, loop 1 -/
noncomputable def r68l1g (x0 x1 : Int) (x2 : List (List Int)) : Nat × Int × List (List Int) :=
 let c74 := (r68l1f (IntKind.i64.wrap (x0 + 1)) x1 (x2.modify (Int.toNat x1) (fun r => spl 18 r 0 [(((ofInt .f32 x0) : Nat) : Int)])))
 cond ((decide ((0 : Int) ≤ x1)) && (Nat.blt (Int.toNat x1) x2.length))
  (cond (Nat.beq (c74.1) 0)
   (0, (c74.2.1), (c74.2.2))
   (1, 0, []))
  (1, 0, [])
noncomputable def a68l1g (x0 x1 : Int) (x2 : List (List Int)) (p : Nat × Int × List (List Int)) : Option (Fin' × List Value × St) := firstT ([((Nat.beq (p.1) 0), .exit 2, [wsl 0, .int .i64 (p.2.1), .int .i64 x1], ⟨[⟨true, (some (.tab sc0 (p.2.2)))⟩], 1, [0]⟩)].map fun (b, x) => (b, (x.1, frameOf 58 [0, 1, 5] x.2.1, x.2.2)))
noncomputable def t68l1g (x0 x1 : Int) (x2 : List (List Int)) : Option (Fin' × List Value × St) :=
 let c74 := (r68l1f (IntKind.i64.wrap (x0 + 1)) x1 (x2.modify (Int.toNat x1) (fun r => spl 18 r 0 [(((ofInt .f32 x0) : Nat) : Int)])))
 (cond ((decide ((0 : Int) ≤ x1)) && (Nat.blt (Int.toNat x1) x2.length))
 (cond (Nat.beq (c74.1) 0)
  (some (.exit 2, frameOf 58 [0, 1, 5] [wsl 0, .int .i64 (c74.2.1), .int .i64 x1], ⟨[⟨true, (some (.tab sc0 (c74.2.2)))⟩], 1, [0]⟩))
  none)
 none)
noncomputable def w68l1g (x0 x1 : Int) (x2 : List (List Int)) : Option (Fin' × List Value × St) :=
 let c74 := (r68l1f (IntKind.i64.wrap (x0 + 1)) x1 (x2.modify (Int.toNat x1) (fun r => spl 18 r 0 [(((ofInt .f32 x0) : Nat) : Int)])))
 (cond ((decide ((0 : Int) ≤ x1)) && (Nat.blt (Int.toNat x1) x2.length))
 (cond (Nat.blt (Int.toNat x1) x2.length)
  (cond (Nat.beq (c74.1) 0)
   (some (.exit 2, frameOf 58 [0, 1, 5] [wsl 0, .int .i64 (c74.2.1), .int .i64 x1], ⟨[⟨true, (some (.tab sc0 (c74.2.2)))⟩], 1, [0]⟩))
   none)
  none)
 none)
set_option maxRecDepth 100000 in
set_option maxHeartbeats 4000000 in
theorem e68l1g (x0 x1 : Int) (x2 : List (List Int)) : evC Try.prog ext T34 L68_6 200 (loopN Try.f68 1) (loopTail [0, 1, 5, 6] [0, 1, 5] [] (sumK 58 [0, 1, 5, 6] [0, 1, 5] Q68l1f)) (frameOf 58 [0, 1, 5, 6] [wsl 0, .int .i64 x0, .int .i64 x1, .int .i64 0]) ⟨[⟨true, (some (.tab sc0 x2))⟩], 1, []⟩ = firstT ([((Nat.beq ((r68l1g x0 x1 x2).1) 0), .exit 2, [wsl 0, .int .i64 ((r68l1g x0 x1 x2).2.1), .int .i64 x1], ⟨[⟨true, (some (.tab sc0 ((r68l1g x0 x1 x2).2.2)))⟩], 1, [0]⟩)].map fun (b, x) => (b, (x.1, frameOf 58 [0, 1, 5] x.2.1, x.2.2))) :=
 (show evC Try.prog ext T34 L68_6 200 (loopN Try.f68 1) (loopTail [0, 1, 5, 6] [0, 1, 5] [] (sumK 58 [0, 1, 5, 6] [0, 1, 5] Q68l1f)) (frameOf 58 [0, 1, 5, 6] [wsl 0, .int .i64 x0, .int .i64 x1, .int .i64 0]) ⟨[⟨true, (some (.tab sc0 x2))⟩], 1, []⟩ = w68l1g x0 x1 x2 from by kernel_rfl).trans
 ((show w68l1g x0 x1 x2 = t68l1g x0 x1 x2 from (cond_cong _ (fun h0 => (cond_t (ev_and2 h0) rfl)) (fun h0 => rfl))).trans
 (show t68l1g x0 x1 x2 = a68l1g x0 x1 x2 (r68l1g x0 x1 x2) from (cond_app (a68l1g x0 x1 x2) _ (cond_app (a68l1g x0 x1 x2) _ rfl rfl) rfl)))
noncomputable def Q68l1g : SumK := fun vals s =>
 match vals, s.h with
 | [.iface f0 .nilIface, .int .i64 x0, .int .i64 x1, .int .i64 f1], [⟨true, some (.tab [.fl .f32, .fl .f32, .fl .f32, .fl .f32, .fl .f32, .fl .f32, .fl .f32, .fl .f32, .fl .f32, .fl .f32, .fl .f32, .fl .f32, .fl .f32, .fl .f32, .fl .f32, .fl .f32, .fl .f32, .fl .f32] x2)⟩] => if f0 = 0 ∧ f1 = 0 then [((Nat.beq ((r68l1g x0 x1 x2).1) 0), .exit 2, [wsl 0, .int .i64 ((r68l1g x0 x1 x2).2.1), .int .i64 x1], ⟨[⟨true, (some (.tab sc0 ((r68l1g x0 x1 x2).2.2)))⟩], 1, [0]⟩)] else Q68l1f vals s
 | _, _ => Q68l1f vals s
set_option maxRecDepth 100000 in
set_option maxHeartbeats 4000000 in
theorem qok68l1g : SumKOk Try.prog (loopN Try.f68 1) 58 [0, 1, 5, 6] [0, 1, 5] Q68l1g := by
  intro vals s x h1 h2 h3
  unfold Q68l1g at h3; split at h3
  · rename_i h; split at h3
    · rename_i hc; obtain ⟨rfl, rfl⟩ := hc; exact sum_step ok34 extOk mixed (lok68_6.inner (by kernel_rfl)) qok68l1f h1 h2 h (e68l1g _ _ _) rfl h3
    · exact qok68l1f _ _ _ h1 h2 h3
  · exact qok68l1f _ _ _ h1 h2 h3
noncomputable def L68_7 : LoopT := addL L68_6 6 [0, 1, 5, 6] (sumK 58 [0, 1, 5, 6] [0, 1, 5] Q68l1g)
theorem lok68_7 : LfOkF Try.prog L68_7 Try.f68 := lfOkF_add lok68_6 qok68l1g (by kernel_rfl) (by kernel_rfl) (by kernel_rfl)
end Go.Proofs.Ytbmagccjcccnaaa
