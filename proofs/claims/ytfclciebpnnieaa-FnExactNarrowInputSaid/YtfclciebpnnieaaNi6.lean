/- What the functions that the statements reach answer, part 6. -/
import Derived.Test.YtfclciebpnnieaaNi5
namespace Go.Proofs.Ytfclciebpnnieaa
open Go.Ab
set_option maxHeartbeats 4000000
set_option maxRecDepth 100000

/-- impl.NarrowInput, loop 1: one round -/
noncomputable def b37l1 (ih : Int → Int → Int → Int → Int → Nat → Nat → Nat → Nat → Nat → Nat → Nat → Nat → Nat → Nat → Nat → Nat → List (List Int) → List ByteArray → List (List Int) → Nat) (x0 x1 x2 x3 x4 : Int) (x5 x6 x7 x8 x9 x10 x11 x12 x13 x14 x15 x16 : Nat) (x17 : List (List Int)) (x18 : List ByteArray) (x19 : List (List Int)) : Nat :=
 let c751 := (r51b (Int.toNat ((x17.getD (Int.toNat x4) []).getD 0 0)) (Int.toNat ((x17.getD (Int.toNat (IntKind.i64.wrap (x4 + 1))) []).getD 0 0)))
 cond (decide ((x4 : Int) < x3))
  (cond ((decide ((0 : Int) ≤ x4)) && (Nat.blt (Int.toNat x4) x17.length))
  (cond ((decide ((0 : Int) ≤ (IntKind.i64.wrap (x4 + 1)))) && (Nat.blt (Int.toNat (IntKind.i64.wrap (x4 + 1))) x17.length))
  (cond (!c751)
  (0)
  (cond (fgt .f32 (Int.toNat ((x17.getD (Int.toNat x4) []).getD 0 0)) (Int.toNat ((x17.getD (Int.toNat (IntKind.i64.wrap (x4 + 1))) []).getD 0 0)))
  (0)
  (ih x0 x1 x2 x3 (IntKind.i64.wrap (x4 + 1)) x5 x6 x7 x8 x9 x10 x11 x12 x13 x14 x15 x16 x17 x18 x19)))
  (2))
  (2))
  (1)
noncomputable def r37l1 : Nat → Int → Int → Int → Int → Int → Nat → Nat → Nat → Nat → Nat → Nat → Nat → Nat → Nat → Nat → Nat → Nat → List (List Int) → List ByteArray → List (List Int) → Nat
 | 0 => fun _ _ _ _ _ _ _ _ _ _ _ _ _ _ _ _ _ _ _ _ => (2)
 | m + 1 => b37l1 (r37l1 m)
noncomputable def a37l1 (x0 x1 x2 x3 x4 : Int) (x5 x6 x7 x8 x9 x10 x11 x12 x13 x14 x15 x16 : Nat) (x17 : List (List Int)) (x18 : List ByteArray) (x19 : List (List Int)) (p : Nat) : Option (Fin' × List Value × St) := firstT ([((Nat.beq p 0), .ret, [.int .i64 x0, .int .i64 x1, .pointer (some ⟨0, 0, some 0⟩), .pointer (some ⟨1, 0, some 0⟩), .pointer (some ⟨2, 0, some 0⟩), .pointer (some ⟨3, 0, some 0⟩), .int .i64 4, .int .i64 x2, wsl 4], ⟨[⟨true, (some (.cells [wsl 5, wsl 6]))⟩, ⟨true, (some (.cells [.float .f32 x5, .float .f32 x6, .float .f32 x7, .float .f32 x8, .float .f32 x9, .float .f32 x10, .float .f32 x11, .float .f32 x12]))⟩, ⟨true, (some (.cells [.float .f32 x13, .float .f32 x14]))⟩, ⟨true, (some (.cells [.float .f32 0, .float .f32 0]))⟩, ⟨true, (some (.tab [.fl .f32] x17))⟩, ⟨true, (some (.strs x18))⟩, ⟨true, (some (.tab [.int .i8, .int .i16, .fl .f32] x19))⟩], 7, [3]⟩), ((Nat.beq p 1), .exit 2, [.int .i64 x0, .int .i64 x1, .pointer (some ⟨0, 0, some 0⟩), .pointer (some ⟨1, 0, some 0⟩), .pointer (some ⟨2, 0, some 0⟩), .pointer (some ⟨3, 0, some 0⟩), anyV, .int .i64 x2, wsl 4], ⟨[⟨true, (some (.cells [wsl 5, wsl 6]))⟩, ⟨true, (some (.cells [.float .f32 x5, .float .f32 x6, .float .f32 x7, .float .f32 x8, .float .f32 x9, .float .f32 x10, .float .f32 x11, .float .f32 x12]))⟩, ⟨true, (some (.cells [.float .f32 x13, .float .f32 x14]))⟩, ⟨true, (some (.cells [.float .f32 x15, .float .f32 x16]))⟩, ⟨true, (some (.tab [.fl .f32] x17))⟩, ⟨true, (some (.strs x18))⟩, ⟨true, (some (.tab [.int .i8, .int .i16, .fl .f32] x19))⟩], 7, [3]⟩)].map fun (b, x) => (b, (x.1, frameOf 171 [2, 5, 6, 7, 10, 12, 13, 14, 16] x.2.1, x.2.2)))
noncomputable def u37l1 (x0 x1 x2 x3 x4 : Int) (x5 x6 x7 x8 x9 x10 x11 x12 x13 x14 x15 x16 : Nat) (x17 : List (List Int)) (x18 : List ByteArray) (x19 : List (List Int)) (p : Nat) : Option (Fin' × List Value × St) := alts ([((Nat.beq p 0), .ret, [.int .i64 x0, .int .i64 x1, .pointer (some ⟨0, 0, some 0⟩), .pointer (some ⟨1, 0, some 0⟩), .pointer (some ⟨2, 0, some 0⟩), .pointer (some ⟨3, 0, some 0⟩), .int .i64 4, .int .i64 x2, wsl 4], ⟨[⟨true, (some (.cells [wsl 5, wsl 6]))⟩, ⟨true, (some (.cells [.float .f32 x5, .float .f32 x6, .float .f32 x7, .float .f32 x8, .float .f32 x9, .float .f32 x10, .float .f32 x11, .float .f32 x12]))⟩, ⟨true, (some (.cells [.float .f32 x13, .float .f32 x14]))⟩, ⟨true, (some (.cells [.float .f32 0, .float .f32 0]))⟩, ⟨true, (some (.tab [.fl .f32] x17))⟩, ⟨true, (some (.strs x18))⟩, ⟨true, (some (.tab [.int .i8, .int .i16, .fl .f32] x19))⟩], 7, [3]⟩), ((Nat.beq p 1), .exit 2, [.int .i64 x0, .int .i64 x1, .pointer (some ⟨0, 0, some 0⟩), .pointer (some ⟨1, 0, some 0⟩), .pointer (some ⟨2, 0, some 0⟩), .pointer (some ⟨3, 0, some 0⟩), anyV, .int .i64 x2, wsl 4], ⟨[⟨true, (some (.cells [wsl 5, wsl 6]))⟩, ⟨true, (some (.cells [.float .f32 x5, .float .f32 x6, .float .f32 x7, .float .f32 x8, .float .f32 x9, .float .f32 x10, .float .f32 x11, .float .f32 x12]))⟩, ⟨true, (some (.cells [.float .f32 x13, .float .f32 x14]))⟩, ⟨true, (some (.cells [.float .f32 x15, .float .f32 x16]))⟩, ⟨true, (some (.tab [.fl .f32] x17))⟩, ⟨true, (some (.strs x18))⟩, ⟨true, (some (.tab [.int .i8, .int .i16, .fl .f32] x19))⟩], 7, [3]⟩)].map fun (b, x) => (b, (x.1, frameOf 171 [2, 5, 6, 7, 10, 12, 13, 14, 16] x.2.1, x.2.2))) some
theorem v37l1 (x0 x1 x2 x3 x4 : Int) (x5 x6 x7 x8 x9 x10 x11 x12 x13 x14 x15 x16 : Nat) (x17 : List (List Int)) (x18 : List ByteArray) (x19 : List (List Int)) (p : Nat) : u37l1 x0 x1 x2 x3 x4 x5 x6 x7 x8 x9 x10 x11 x12 x13 x14 x15 x16 x17 x18 x19 p = a37l1 x0 x1 x2 x3 x4 x5 x6 x7 x8 x9 x10 x11 x12 x13 x14 x15 x16 x17 x18 x19 p := alts_first _
noncomputable def q37l1 (m : Nat) : SumK := fun vals s =>
 match vals, s.h with
 | [.int .i64 x0, .int .i64 x1, .pointer (some ⟨f0, f1, some f2⟩), .pointer (some ⟨f3, f4, some f5⟩), .pointer (some ⟨f6, f7, some f8⟩), .pointer (some ⟨f9, f10, some f11⟩), .int .i64 x2, .iface f12 .nilIface, .int .i64 x3, .int .i64 x4], [⟨true, some (.cells [.iface f13 .nilIface, .iface f14 .nilIface])⟩, ⟨true, some (.cells [.float .f32 x5, .float .f32 x6, .float .f32 x7, .float .f32 x8, .float .f32 x9, .float .f32 x10, .float .f32 x11, .float .f32 x12])⟩, ⟨true, some (.cells [.float .f32 x13, .float .f32 x14])⟩, ⟨true, some (.cells [.float .f32 x15, .float .f32 x16])⟩, ⟨true, some (.tab [.fl .f32] x17)⟩, ⟨true, some (.strs x18)⟩, ⟨true, some (.tab [.int .i8, .int .i16, .fl .f32] x19)⟩] => if f0 = 0 ∧ f1 = 0 ∧ f2 = 0 ∧ f3 = 1 ∧ f4 = 0 ∧ f5 = 0 ∧ f6 = 2 ∧ f7 = 0 ∧ f8 = 0 ∧ f9 = 3 ∧ f10 = 0 ∧ f11 = 0 ∧ f12 = 4 ∧ f13 = 5 ∧ f14 = 6 then [((Nat.beq (r37l1 m x0 x1 x2 x3 x4 x5 x6 x7 x8 x9 x10 x11 x12 x13 x14 x15 x16 x17 x18 x19) 0), .ret, [.int .i64 x0, .int .i64 x1, .pointer (some ⟨0, 0, some 0⟩), .pointer (some ⟨1, 0, some 0⟩), .pointer (some ⟨2, 0, some 0⟩), .pointer (some ⟨3, 0, some 0⟩), .int .i64 4, .int .i64 x2, wsl 4], ⟨[⟨true, (some (.cells [wsl 5, wsl 6]))⟩, ⟨true, (some (.cells [.float .f32 x5, .float .f32 x6, .float .f32 x7, .float .f32 x8, .float .f32 x9, .float .f32 x10, .float .f32 x11, .float .f32 x12]))⟩, ⟨true, (some (.cells [.float .f32 x13, .float .f32 x14]))⟩, ⟨true, (some (.cells [.float .f32 0, .float .f32 0]))⟩, ⟨true, (some (.tab [.fl .f32] x17))⟩, ⟨true, (some (.strs x18))⟩, ⟨true, (some (.tab [.int .i8, .int .i16, .fl .f32] x19))⟩], 7, [3]⟩), ((Nat.beq (r37l1 m x0 x1 x2 x3 x4 x5 x6 x7 x8 x9 x10 x11 x12 x13 x14 x15 x16 x17 x18 x19) 1), .exit 2, [.int .i64 x0, .int .i64 x1, .pointer (some ⟨0, 0, some 0⟩), .pointer (some ⟨1, 0, some 0⟩), .pointer (some ⟨2, 0, some 0⟩), .pointer (some ⟨3, 0, some 0⟩), anyV, .int .i64 x2, wsl 4], ⟨[⟨true, (some (.cells [wsl 5, wsl 6]))⟩, ⟨true, (some (.cells [.float .f32 x5, .float .f32 x6, .float .f32 x7, .float .f32 x8, .float .f32 x9, .float .f32 x10, .float .f32 x11, .float .f32 x12]))⟩, ⟨true, (some (.cells [.float .f32 x13, .float .f32 x14]))⟩, ⟨true, (some (.cells [.float .f32 x15, .float .f32 x16]))⟩, ⟨true, (some (.tab [.fl .f32] x17))⟩, ⟨true, (some (.strs x18))⟩, ⟨true, (some (.tab [.int .i8, .int .i16, .fl .f32] x19))⟩], 7, [3]⟩)] else noQ vals s
 | _, _ => noQ vals s
noncomputable def w37l1 (ih : Int → Int → Int → Int → Int → Nat → Nat → Nat → Nat → Nat → Nat → Nat → Nat → Nat → Nat → Nat → Nat → List (List Int) → List ByteArray → List (List Int) → Nat) (x0 x1 x2 x3 x4 : Int) (x5 x6 x7 x8 x9 x10 x11 x12 x13 x14 x15 x16 : Nat) (x17 : List (List Int)) (x18 : List ByteArray) (x19 : List (List Int)) : Option (Fin' × List Value × St) :=
 let c751 := (r51b (Int.toNat ((x17.getD (Int.toNat x4) []).getD 0 0)) (Int.toNat ((x17.getD (Int.toNat (IntKind.i64.wrap (x4 + 1))) []).getD 0 0)))
 (cond (decide ((x4 : Int) < x3))
 (cond ((decide ((0 : Int) ≤ x4)) && (Nat.blt (Int.toNat x4) x17.length))
  (cond (Nat.blt (Int.toNat x4) x17.length)
  (cond ((decide ((0 : Int) ≤ (IntKind.i64.wrap (x4 + 1)))) && (Nat.blt (Int.toNat (IntKind.i64.wrap (x4 + 1))) x17.length))
  (cond (Nat.blt (Int.toNat (IntKind.i64.wrap (x4 + 1))) x17.length)
  (cond (!c751)
  (a37l1 x0 x1 x2 x3 x4 x5 x6 x7 x8 x9 x10 x11 x12 x13 x14 x15 x16 x17 x18 x19 (0))
  (cond ((decide ((0 : Int) ≤ x4)) && (Nat.blt (Int.toNat x4) x17.length))
  (cond (Nat.blt (Int.toNat x4) x17.length)
  (cond ((decide ((0 : Int) ≤ (IntKind.i64.wrap (x4 + 1)))) && (Nat.blt (Int.toNat (IntKind.i64.wrap (x4 + 1))) x17.length))
  (cond (Nat.blt (Int.toNat (IntKind.i64.wrap (x4 + 1))) x17.length)
  (cond (fgt .f32 (Int.toNat ((x17.getD (Int.toNat x4) []).getD 0 0)) (Int.toNat ((x17.getD (Int.toNat (IntKind.i64.wrap (x4 + 1))) []).getD 0 0)))
  (a37l1 x0 x1 x2 x3 x4 x5 x6 x7 x8 x9 x10 x11 x12 x13 x14 x15 x16 x17 x18 x19 (0))
  (u37l1 x0 x1 x2 x3 x4 x5 x6 x7 x8 x9 x10 x11 x12 x13 x14 x15 x16 x17 x18 x19 (ih x0 x1 x2 x3 (IntKind.i64.wrap (x4 + 1)) x5 x6 x7 x8 x9 x10 x11 x12 x13 x14 x15 x16 x17 x18 x19)))
  none)
  none)
  none)
  none))
  none)
  none)
  none)
  none)
 (a37l1 x0 x1 x2 x3 x4 x5 x6 x7 x8 x9 x10 x11 x12 x13 x14 x15 x16 x17 x18 x19 (1)))
set_option maxRecDepth 100000 in
set_option maxHeartbeats 4000000 in
theorem e37l1 (m : Nat) (x0 x1 x2 x3 x4 : Int) (x5 x6 x7 x8 x9 x10 x11 x12 x13 x14 x15 x16 : Nat) (x17 : List (List Int)) (x18 : List ByteArray) (x19 : List (List Int)) : evC Try.prog ext T54 L37_1 200 (loopN Try.f37 1) (loopTail ([2, 5, 6, 7, 10, 12, 14, 16, 93, 94], []) [2, 5, 6, 7, 10, 12, 13, 14, 16] [3] (sumK 171 [2, 5, 6, 7, 10, 12, 14, 16, 93, 94] [2, 5, 6, 7, 10, 12, 13, 14, 16] (q37l1 m))) (frameOf 171 [2, 5, 6, 7, 10, 12, 14, 16, 93, 94] [.int .i64 x0, .int .i64 x1, .pointer (some ⟨0, 0, some 0⟩), .pointer (some ⟨1, 0, some 0⟩), .pointer (some ⟨2, 0, some 0⟩), .pointer (some ⟨3, 0, some 0⟩), .int .i64 x2, wsl 4, .int .i64 x3, .int .i64 x4]) ⟨[⟨true, (some (.cells [wsl 5, wsl 6]))⟩, ⟨true, (some (.cells [.float .f32 x5, .float .f32 x6, .float .f32 x7, .float .f32 x8, .float .f32 x9, .float .f32 x10, .float .f32 x11, .float .f32 x12]))⟩, ⟨true, (some (.cells [.float .f32 x13, .float .f32 x14]))⟩, ⟨true, (some (.cells [.float .f32 x15, .float .f32 x16]))⟩, ⟨true, (some (.tab [.fl .f32] x17))⟩, ⟨true, (some (.strs x18))⟩, ⟨true, (some (.tab [.int .i8, .int .i16, .fl .f32] x19))⟩], 7, []⟩ = firstT ([((Nat.beq (r37l1 (m + 1) x0 x1 x2 x3 x4 x5 x6 x7 x8 x9 x10 x11 x12 x13 x14 x15 x16 x17 x18 x19) 0), .ret, [.int .i64 x0, .int .i64 x1, .pointer (some ⟨0, 0, some 0⟩), .pointer (some ⟨1, 0, some 0⟩), .pointer (some ⟨2, 0, some 0⟩), .pointer (some ⟨3, 0, some 0⟩), .int .i64 4, .int .i64 x2, wsl 4], ⟨[⟨true, (some (.cells [wsl 5, wsl 6]))⟩, ⟨true, (some (.cells [.float .f32 x5, .float .f32 x6, .float .f32 x7, .float .f32 x8, .float .f32 x9, .float .f32 x10, .float .f32 x11, .float .f32 x12]))⟩, ⟨true, (some (.cells [.float .f32 x13, .float .f32 x14]))⟩, ⟨true, (some (.cells [.float .f32 0, .float .f32 0]))⟩, ⟨true, (some (.tab [.fl .f32] x17))⟩, ⟨true, (some (.strs x18))⟩, ⟨true, (some (.tab [.int .i8, .int .i16, .fl .f32] x19))⟩], 7, [3]⟩), ((Nat.beq (r37l1 (m + 1) x0 x1 x2 x3 x4 x5 x6 x7 x8 x9 x10 x11 x12 x13 x14 x15 x16 x17 x18 x19) 1), .exit 2, [.int .i64 x0, .int .i64 x1, .pointer (some ⟨0, 0, some 0⟩), .pointer (some ⟨1, 0, some 0⟩), .pointer (some ⟨2, 0, some 0⟩), .pointer (some ⟨3, 0, some 0⟩), anyV, .int .i64 x2, wsl 4], ⟨[⟨true, (some (.cells [wsl 5, wsl 6]))⟩, ⟨true, (some (.cells [.float .f32 x5, .float .f32 x6, .float .f32 x7, .float .f32 x8, .float .f32 x9, .float .f32 x10, .float .f32 x11, .float .f32 x12]))⟩, ⟨true, (some (.cells [.float .f32 x13, .float .f32 x14]))⟩, ⟨true, (some (.cells [.float .f32 x15, .float .f32 x16]))⟩, ⟨true, (some (.tab [.fl .f32] x17))⟩, ⟨true, (some (.strs x18))⟩, ⟨true, (some (.tab [.int .i8, .int .i16, .fl .f32] x19))⟩], 7, [3]⟩)].map fun (b, x) => (b, (x.1, frameOf 171 [2, 5, 6, 7, 10, 12, 13, 14, 16] x.2.1, x.2.2))) :=
 (show evC Try.prog ext T54 L37_1 200 (loopN Try.f37 1) (loopTail ([2, 5, 6, 7, 10, 12, 14, 16, 93, 94], []) [2, 5, 6, 7, 10, 12, 13, 14, 16] [3] (sumK 171 [2, 5, 6, 7, 10, 12, 14, 16, 93, 94] [2, 5, 6, 7, 10, 12, 13, 14, 16] (q37l1 m))) (frameOf 171 [2, 5, 6, 7, 10, 12, 14, 16, 93, 94] [.int .i64 x0, .int .i64 x1, .pointer (some ⟨0, 0, some 0⟩), .pointer (some ⟨1, 0, some 0⟩), .pointer (some ⟨2, 0, some 0⟩), .pointer (some ⟨3, 0, some 0⟩), .int .i64 x2, wsl 4, .int .i64 x3, .int .i64 x4]) ⟨[⟨true, (some (.cells [wsl 5, wsl 6]))⟩, ⟨true, (some (.cells [.float .f32 x5, .float .f32 x6, .float .f32 x7, .float .f32 x8, .float .f32 x9, .float .f32 x10, .float .f32 x11, .float .f32 x12]))⟩, ⟨true, (some (.cells [.float .f32 x13, .float .f32 x14]))⟩, ⟨true, (some (.cells [.float .f32 x15, .float .f32 x16]))⟩, ⟨true, (some (.tab [.fl .f32] x17))⟩, ⟨true, (some (.strs x18))⟩, ⟨true, (some (.tab [.int .i8, .int .i16, .fl .f32] x19))⟩], 7, []⟩ = w37l1 (r37l1 m) x0 x1 x2 x3 x4 x5 x6 x7 x8 x9 x10 x11 x12 x13 x14 x15 x16 x17 x18 x19 from by kernel_rfl).trans
 (show w37l1 (r37l1 m) x0 x1 x2 x3 x4 x5 x6 x7 x8 x9 x10 x11 x12 x13 x14 x15 x16 x17 x18 x19 = a37l1 x0 x1 x2 x3 x4 x5 x6 x7 x8 x9 x10 x11 x12 x13 x14 x15 x16 x17 x18 x19 (r37l1 (m + 1) x0 x1 x2 x3 x4 x5 x6 x7 x8 x9 x10 x11 x12 x13 x14 x15 x16 x17 x18 x19) from by unfold w37l1; show _ = a37l1 x0 x1 x2 x3 x4 x5 x6 x7 x8 x9 x10 x11 x12 x13 x14 x15 x16 x17 x18 x19 (b37l1 (r37l1 m) x0 x1 x2 x3 x4 x5 x6 x7 x8 x9 x10 x11 x12 x13 x14 x15 x16 x17 x18 x19); unfold b37l1; exact (cond_both (a37l1 x0 x1 x2 x3 x4 x5 x6 x7 x8 x9 x10 x11 x12 x13 x14 x15 x16 x17 x18 x19) _ (fun h0 => (cond_both (a37l1 x0 x1 x2 x3 x4 x5 x6 x7 x8 x9 x10 x11 x12 x13 x14 x15 x16 x17 x18 x19) _ (fun h1 => (cond_t (ev_and2 h1) (cond_both (a37l1 x0 x1 x2 x3 x4 x5 x6 x7 x8 x9 x10 x11 x12 x13 x14 x15 x16 x17 x18 x19) _ (fun h2 => (cond_t (ev_and2 h2) (cond_both (a37l1 x0 x1 x2 x3 x4 x5 x6 x7 x8 x9 x10 x11 x12 x13 x14 x15 x16 x17 x18 x19) _ (fun h3 => rfl) (fun h3 => (cond_t h1 (cond_t (ev_and2 h1) (cond_t h2 (cond_t (ev_and2 h2) (cond_app (a37l1 x0 x1 x2 x3 x4 x5 x6 x7 x8 x9 x10 x11 x12 x13 x14 x15 x16 x17 x18 x19) _ rfl (v37l1 x0 x1 x2 x3 x4 x5 x6 x7 x8 x9 x10 x11 x12 x13 x14 x15 x16 x17 x18 x19 ((r37l1 m) x0 x1 x2 x3 (IntKind.i64.wrap (x4 + 1)) x5 x6 x7 x8 x9 x10 x11 x12 x13 x14 x15 x16 x17 x18 x19))))))))))) (fun h2 => rfl)))) (fun h1 => rfl))) (fun h0 => rfl)))
set_option maxRecDepth 100000 in
set_option maxHeartbeats 4000000 in
theorem qm37l1 : ∀ m, SumKOk Try.prog (loopN Try.f37 1) 171 [2, 5, 6, 7, 10, 12, 14, 16, 93, 94] [2, 5, 6, 7, 10, 12, 13, 14, 16] (q37l1 m) := by
  intro m
  induction m with
  | zero =>
    intro vals s x h1 h2 h3
    unfold q37l1 at h3; split at h3
    · rename_i h; split at h3
      · rename_i hc; obtain ⟨rfl, rfl, rfl, rfl, rfl, rfl, rfl, rfl, rfl, rfl, rfl, rfl, rfl, rfl, rfl⟩ := hc; exact absurd h3 (by simp [r37l1, firstT, Nat.beq])
      · exact noQ_ok _ _ _ h1 h2 h3
    · exact noQ_ok _ _ _ h1 h2 h3
  | succ m ih =>
    intro vals s x h1 h2 h3
    unfold q37l1 at h3; split at h3
    · rename_i h; split at h3
      · rename_i hc; obtain ⟨rfl, rfl, rfl, rfl, rfl, rfl, rfl, rfl, rfl, rfl, rfl, rfl, rfl, rfl, rfl⟩ := hc; exact sum_step ok54 extOk mixed (lok37_1.inner (by kernel_rfl)) ih h1 h2 h (e37l1 m _ _ _ _ _ _ _ _ _ _ _ _ _ _ _ _ _ _ _ _) rfl h3
      · exact noQ_ok _ _ _ h1 h2 h3
    · exact noQ_ok _ _ _ h1 h2 h3
noncomputable def Q37l1 : SumK := fun vals s => q37l1 (fuelOf vals s.h) vals s
theorem qok37l1 : SumKOk Try.prog (loopN Try.f37 1) 171 [2, 5, 6, 7, 10, 12, 14, 16, 93, 94] [2, 5, 6, 7, 10, 12, 13, 14, 16] Q37l1 := fuel_ok qm37l1 fuelOf
noncomputable def L37_2 : LoopT := addL L37_1 19 ([2, 5, 6, 7, 10, 12, 14, 16, 93, 94], []) (sumK 171 [2, 5, 6, 7, 10, 12, 14, 16, 93, 94] [2, 5, 6, 7, 10, 12, 13, 14, 16] Q37l1)
theorem lok37_2 : LfOkF Try.prog L37_2 Try.f37 := lfOkF_add lok37_1 qok37l1 (by kernel_rfl) (by kernel_rfl) (by kernel_rfl)

/-- impl.prove$1 -/
noncomputable def r89 (x0 : Nat) : Unit :=
 ()
noncomputable def a89 (x0 : Nat) (p : Unit) : Res := firstT [(true, .agg #[.float .f32 x0, .float .f32 x0], st0)]
noncomputable def w89 (x0 : Nat) : Res :=
 (a89 x0 ())
set_option maxRecDepth 100000 in
set_option maxHeartbeats 4000000 in
theorem e89 (x0 : Nat) : evFn Try.prog ext T54 noL 200 Try.f89 [.float .f32 x0] st0 = firstT [(true, .agg #[.float .f32 x0, .float .f32 x0], st0)] :=
 (show evFn Try.prog ext T54 noL 200 Try.f89 [.float .f32 x0] st0 = w89 x0 from by kernel_rfl).trans
 (show w89 x0 = a89 x0 (r89 x0) from by unfold w89 r89; exact rfl)
noncomputable def s89 (args : List Value) (s : St) : List (Bool × Value × St) :=
 match args, s.h with
 | [.float .f32 x0], [] => [(true, .agg #[.float .f32 x0, .float .f32 x0], st0)]
 | _, _ => T54 89 args s
noncomputable def T55 : CallF := addF T54 89 s89
set_option maxRecDepth 100000 in
set_option maxHeartbeats 4000000 in
theorem ok55 : CfOk Try.prog T55 := by
  refine cfOk_add ok54 fun args s r s' h1 h2 h3 => ?_
  unfold s89 at h3; split at h3
  · rename_i h; exact callOk ok54 Try.func89 h1 h2 h (lfOkF_no _ _).body (e89 _) rfl h3
  · exact ok54 _ _ _ _ _ h1 h2 h3

/-- impl.infinity -/
noncomputable def r116 (x0 : Int) : Nat × Nat :=
 cond (narrowOk (r111 x0))
  (0, (narrow (r111 x0)))
  (1, 0)
noncomputable def a116 (x0 : Int) (p : Nat × Nat) : Res := firstT [((Nat.beq (p.1) 0), .float .f32 (p.2), st0)]
noncomputable def w116 (x0 : Int) : Res :=
 (cond (narrowOk (r111 x0))
 (a116 x0 (0, (narrow (r111 x0))))
 none)
set_option maxRecDepth 100000 in
set_option maxHeartbeats 4000000 in
theorem e116 (x0 : Int) : evFn Try.prog ext T55 noL 200 Try.f116 [.int .i64 x0] st0 = firstT [((Nat.beq ((r116 x0).1) 0), .float .f32 ((r116 x0).2), st0)] :=
 (show evFn Try.prog ext T55 noL 200 Try.f116 [.int .i64 x0] st0 = w116 x0 from by kernel_rfl).trans
 (show w116 x0 = a116 x0 (r116 x0) from by unfold w116 r116; exact (cond_app (a116 x0) _ rfl rfl))
noncomputable def s116 (args : List Value) (s : St) : List (Bool × Value × St) :=
 match args, s.h with
 | [.int .i64 x0], [] => [((Nat.beq ((r116 x0).1) 0), .float .f32 ((r116 x0).2), st0)]
 | _, _ => T55 116 args s
noncomputable def T56 : CallF := addF T55 116 s116
set_option maxRecDepth 100000 in
set_option maxHeartbeats 4000000 in
theorem ok56 : CfOk Try.prog T56 := by
  refine cfOk_add ok55 fun args s r s' h1 h2 h3 => ?_
  unfold s116 at h3; split at h3
  · rename_i h; exact callOk ok55 Try.func116 h1 h2 h (lfOkF_no _ _).body (e116 _) rfl h3
  · exact ok55 _ _ _ _ _ h1 h2 h3

/-- impl.NextUp -/
noncomputable def r118 (x0 : Nat) : Nat :=
 cond (!isN .f32 x0)
  (cond (!feq .f32 x0 x0)
  (x0)
  (cond (r80 (widen x0) 1)
  (x0)
  (cond ((((x0 : Nat) : Int) : Int) == 2147483648)
  (1)
  (cond (((Int.fdiv ((x0 : Nat) : Int) (2 ^ (min (31 : Int).toNat (IntKind.bits .u32)))) : Int) != 0)
  ((Int.toNat (IntKind.u32.wrap (((x0 : Nat) : Int) - 1))))
  ((Int.toNat (IntKind.u32.wrap (((x0 : Nat) : Int) + 1))))))))
  (x0)
noncomputable def a118 (x0 : Nat) (p : Nat) : Res := firstT [(true, .float .f32 p, st0)]
noncomputable def w118 (x0 : Nat) : Res :=
 (cond (!isN .f32 x0)
 (cond (!feq .f32 x0 x0)
  (a118 x0 (x0))
  (cond (r80 (widen x0) 1)
  (a118 x0 (x0))
  (cond ((((x0 : Nat) : Int) : Int) == 2147483648)
  (a118 x0 (1))
  (cond (((Int.fdiv ((x0 : Nat) : Int) (2 ^ (min (31 : Int).toNat (IntKind.bits .u32)))) : Int) != 0)
  (a118 x0 ((Int.toNat (IntKind.u32.wrap (((x0 : Nat) : Int) - 1)))))
  (a118 x0 ((Int.toNat (IntKind.u32.wrap (((x0 : Nat) : Int) + 1)))))))))
 (cond (!feq .f32 x0 x0)
  (a118 x0 (x0))
  (cond (r80 (widen x0) 1)
  (some (.float .f32 x0, st0))
  none)))
set_option maxRecDepth 100000 in
set_option maxHeartbeats 4000000 in
theorem e118 (x0 : Nat) : evFn Try.prog ext T56 noL 200 Try.f118 [.float .f32 x0] st0 = firstT [(true, .float .f32 (r118 x0), st0)] :=
 (show evFn Try.prog ext T56 noL 200 Try.f118 [.float .f32 x0] st0 = w118 x0 from by kernel_rfl).trans
 (show w118 x0 = a118 x0 (r118 x0) from by unfold w118 r118; exact (cond_both (a118 x0) _ (fun h0 => (cond_app (a118 x0) _ rfl (cond_app (a118 x0) _ rfl (cond_app (a118 x0) _ rfl (cond_app (a118 x0) _ rfl rfl))))) (fun h0 => (cond_t (ev_not1 (feq_nanl _ (ev_notf h0))) rfl))))
noncomputable def s118 (args : List Value) (s : St) : List (Bool × Value × St) :=
 match args, s.h with
 | [.float .f32 x0], [] => [(true, .float .f32 (r118 x0), st0)]
 | _, _ => T56 118 args s
noncomputable def T57 : CallF := addF T56 118 s118
set_option maxRecDepth 100000 in
set_option maxHeartbeats 4000000 in
theorem ok57 : CfOk Try.prog T57 := by
  refine cfOk_add ok56 fun args s r s' h1 h2 h3 => ?_
  unfold s118 at h3; split at h3
  · rename_i h; exact callOk ok56 Try.func118 h1 h2 h (lfOkF_no _ _).body (e118 _) rfl h3
  · exact ok56 _ _ _ _ _ h1 h2 h3

/-- impl.NextDown -/
noncomputable def r117 (x0 : Nat) : Nat :=
 ((fneg .f32 (r118 (fneg .f32 x0))))
noncomputable def a117 (x0 : Nat) (p : Nat) : Res := firstT [(true, .float .f32 p, st0)]
noncomputable def w117 (x0 : Nat) : Res :=
 (a117 x0 ((fneg .f32 (r118 (fneg .f32 x0)))))
set_option maxRecDepth 100000 in
set_option maxHeartbeats 4000000 in
theorem e117 (x0 : Nat) : evFn Try.prog ext T57 noL 200 Try.f117 [.float .f32 x0] st0 = firstT [(true, .float .f32 (r117 x0), st0)] :=
 (show evFn Try.prog ext T57 noL 200 Try.f117 [.float .f32 x0] st0 = w117 x0 from by kernel_rfl).trans
 (show w117 x0 = a117 x0 (r117 x0) from by unfold w117 r117; exact rfl)
noncomputable def s117 (args : List Value) (s : St) : List (Bool × Value × St) :=
 match args, s.h with
 | [.float .f32 x0], [] => [(true, .float .f32 (r117 x0), st0)]
 | _, _ => T57 117 args s
noncomputable def T58 : CallF := addF T57 117 s117
set_option maxRecDepth 100000 in
set_option maxHeartbeats 4000000 in
theorem ok58 : CfOk Try.prog T58 := by
  refine cfOk_add ok57 fun args s r s' h1 h2 h3 => ?_
  unfold s117 at h3; split at h3
  · rename_i h; exact callOk ok57 Try.func117 h1 h2 h (lfOkF_no _ _).body (e117 _) rfl h3
  · exact ok57 _ _ _ _ _ h1 h2 h3

/-- impl.lowEnd -/
noncomputable def r114 (x0 : Nat) : Nat × Nat :=
 cond (!feq .f32 x0 x0)
  (cond (Nat.beq ((r116 (-1)).1) 0)
  (0, ((r116 (-1)).2))
  (1, 0))
  (0, (r117 x0))
noncomputable def a114 (x0 : Nat) (p : Nat × Nat) : Res := firstT [((Nat.beq (p.1) 0), .float .f32 (p.2), st0)]
noncomputable def w114 (x0 : Nat) : Res :=
 (cond (!feq .f32 x0 x0)
 (cond (Nat.beq ((r116 (-1)).1) 0)
  (a114 x0 (0, ((r116 (-1)).2)))
  none)
 (a114 x0 (0, (r117 x0))))
set_option maxRecDepth 100000 in
set_option maxHeartbeats 4000000 in
theorem e114 (x0 : Nat) : evFn Try.prog ext T58 noL 200 Try.f114 [.float .f32 x0] st0 = firstT [((Nat.beq ((r114 x0).1) 0), .float .f32 ((r114 x0).2), st0)] :=
 (show evFn Try.prog ext T58 noL 200 Try.f114 [.float .f32 x0] st0 = w114 x0 from by kernel_rfl).trans
 (show w114 x0 = a114 x0 (r114 x0) from by unfold w114 r114; exact (cond_app (a114 x0) _ (cond_app (a114 x0) _ rfl rfl) rfl))
noncomputable def s114 (args : List Value) (s : St) : List (Bool × Value × St) :=
 match args, s.h with
 | [.float .f32 x0], [] => [((Nat.beq ((r114 x0).1) 0), .float .f32 ((r114 x0).2), st0)]
 | _, _ => T58 114 args s
noncomputable def T59 : CallF := addF T58 114 s114
set_option maxRecDepth 100000 in
set_option maxHeartbeats 4000000 in
theorem ok59 : CfOk Try.prog T59 := by
  refine cfOk_add ok58 fun args s r s' h1 h2 h3 => ?_
  unfold s114 at h3; split at h3
  · rename_i h; exact callOk ok58 Try.func114 h1 h2 h (lfOkF_no _ _).body (e114 _) rfl h3
  · exact ok58 _ _ _ _ _ h1 h2 h3

/-- impl.highEnd -/
noncomputable def r115 (x0 : Nat) : Nat × Nat :=
 cond (!feq .f32 x0 x0)
  (cond (Nat.beq ((r116 1).1) 0)
  (0, ((r116 1).2))
  (1, 0))
  (0, (r118 x0))
noncomputable def a115 (x0 : Nat) (p : Nat × Nat) : Res := firstT [((Nat.beq (p.1) 0), .float .f32 (p.2), st0)]
noncomputable def w115 (x0 : Nat) : Res :=
 (cond (!feq .f32 x0 x0)
 (cond (Nat.beq ((r116 1).1) 0)
  (a115 x0 (0, ((r116 1).2)))
  none)
 (a115 x0 (0, (r118 x0))))
set_option maxRecDepth 100000 in
set_option maxHeartbeats 4000000 in
theorem e115 (x0 : Nat) : evFn Try.prog ext T59 noL 200 Try.f115 [.float .f32 x0] st0 = firstT [((Nat.beq ((r115 x0).1) 0), .float .f32 ((r115 x0).2), st0)] :=
 (show evFn Try.prog ext T59 noL 200 Try.f115 [.float .f32 x0] st0 = w115 x0 from by kernel_rfl).trans
 (show w115 x0 = a115 x0 (r115 x0) from by unfold w115 r115; exact (cond_app (a115 x0) _ (cond_app (a115 x0) _ rfl rfl) rfl))
noncomputable def s115 (args : List Value) (s : St) : List (Bool × Value × St) :=
 match args, s.h with
 | [.float .f32 x0], [] => [((Nat.beq ((r115 x0).1) 0), .float .f32 ((r115 x0).2), st0)]
 | _, _ => T59 115 args s
noncomputable def T60 : CallF := addF T59 115 s115
set_option maxRecDepth 100000 in
set_option maxHeartbeats 4000000 in
theorem ok60 : CfOk Try.prog T60 := by
  refine cfOk_add ok59 fun args s r s' h1 h2 h3 => ?_
  unfold s115 at h3; split at h3
  · rename_i h; exact callOk ok59 Try.func115 h1 h2 h (lfOkF_no _ _).body (e115 _) rfl h3
  · exact ok59 _ _ _ _ _ h1 h2 h3

/-- impl.addSpans -/
noncomputable def r102 (x0 x1 x2 x3 : Nat) : Nat × Nat × Nat :=
 cond (Nat.beq ((r114 (fadd .f32 x0 x2)).1) 0)
  (cond (Nat.beq ((r115 (fadd .f32 x1 x3)).1) 0)
  (0, ((r114 (fadd .f32 x0 x2)).2), ((r115 (fadd .f32 x1 x3)).2))
  (1, 0, 0))
  (1, 0, 0)
noncomputable def a102 (x0 x1 x2 x3 : Nat) (p : Nat × Nat × Nat) : Res := firstT [((Nat.beq (p.1) 0), .agg #[.float .f32 (p.2.1), .float .f32 (p.2.2)], st0)]
noncomputable def w102 (x0 x1 x2 x3 : Nat) : Res :=
 (cond (Nat.beq ((r114 (fadd .f32 x0 x2)).1) 0)
 (cond (Nat.beq ((r115 (fadd .f32 x1 x3)).1) 0)
  (a102 x0 x1 x2 x3 (0, ((r114 (fadd .f32 x0 x2)).2), ((r115 (fadd .f32 x1 x3)).2)))
  none)
 none)
set_option maxRecDepth 100000 in
set_option maxHeartbeats 4000000 in
theorem e102 (x0 x1 x2 x3 : Nat) : evFn Try.prog ext T60 noL 200 Try.f102 [.agg #[.float .f32 x0, .float .f32 x1], .agg #[.float .f32 x2, .float .f32 x3]] st0 = firstT [((Nat.beq ((r102 x0 x1 x2 x3).1) 0), .agg #[.float .f32 ((r102 x0 x1 x2 x3).2.1), .float .f32 ((r102 x0 x1 x2 x3).2.2)], st0)] :=
 (show evFn Try.prog ext T60 noL 200 Try.f102 [.agg #[.float .f32 x0, .float .f32 x1], .agg #[.float .f32 x2, .float .f32 x3]] st0 = w102 x0 x1 x2 x3 from by kernel_rfl).trans
 (show w102 x0 x1 x2 x3 = a102 x0 x1 x2 x3 (r102 x0 x1 x2 x3) from by unfold w102 r102; exact (cond_app (a102 x0 x1 x2 x3) _ (cond_app (a102 x0 x1 x2 x3) _ rfl rfl) rfl))
noncomputable def s102 (args : List Value) (s : St) : List (Bool × Value × St) :=
 match args, s.h with
 | [.agg ⟨[.float .f32 x0, .float .f32 x1]⟩, .agg ⟨[.float .f32 x2, .float .f32 x3]⟩], [] => [((Nat.beq ((r102 x0 x1 x2 x3).1) 0), .agg #[.float .f32 ((r102 x0 x1 x2 x3).2.1), .float .f32 ((r102 x0 x1 x2 x3).2.2)], st0)]
 | _, _ => T60 102 args s
noncomputable def T61 : CallF := addF T60 102 s102
set_option maxRecDepth 100000 in
set_option maxHeartbeats 4000000 in
theorem ok61 : CfOk Try.prog T61 := by
  refine cfOk_add ok60 fun args s r s' h1 h2 h3 => ?_
  unfold s102 at h3; split at h3
  · rename_i h; exact callOk ok60 Try.func102 h1 h2 h (lfOkF_no _ _).body (e102 _ _ _ _) rfl h3
  · exact ok60 _ _ _ _ _ h1 h2 h3

/-- impl.subSpans -/
noncomputable def r103 (x0 x1 x2 x3 : Nat) : Nat × Nat × Nat :=
 cond (Nat.beq ((r114 (fsub .f32 x0 x3)).1) 0)
  (cond (Nat.beq ((r115 (fsub .f32 x1 x2)).1) 0)
  (0, ((r114 (fsub .f32 x0 x3)).2), ((r115 (fsub .f32 x1 x2)).2))
  (1, 0, 0))
  (1, 0, 0)
noncomputable def a103 (x0 x1 x2 x3 : Nat) (p : Nat × Nat × Nat) : Res := firstT [((Nat.beq (p.1) 0), .agg #[.float .f32 (p.2.1), .float .f32 (p.2.2)], st0)]
noncomputable def w103 (x0 x1 x2 x3 : Nat) : Res :=
 (cond (Nat.beq ((r114 (fsub .f32 x0 x3)).1) 0)
 (cond (Nat.beq ((r115 (fsub .f32 x1 x2)).1) 0)
  (a103 x0 x1 x2 x3 (0, ((r114 (fsub .f32 x0 x3)).2), ((r115 (fsub .f32 x1 x2)).2)))
  none)
 none)
set_option maxRecDepth 100000 in
set_option maxHeartbeats 4000000 in
theorem e103 (x0 x1 x2 x3 : Nat) : evFn Try.prog ext T61 noL 200 Try.f103 [.agg #[.float .f32 x0, .float .f32 x1], .agg #[.float .f32 x2, .float .f32 x3]] st0 = firstT [((Nat.beq ((r103 x0 x1 x2 x3).1) 0), .agg #[.float .f32 ((r103 x0 x1 x2 x3).2.1), .float .f32 ((r103 x0 x1 x2 x3).2.2)], st0)] :=
 (show evFn Try.prog ext T61 noL 200 Try.f103 [.agg #[.float .f32 x0, .float .f32 x1], .agg #[.float .f32 x2, .float .f32 x3]] st0 = w103 x0 x1 x2 x3 from by kernel_rfl).trans
 (show w103 x0 x1 x2 x3 = a103 x0 x1 x2 x3 (r103 x0 x1 x2 x3) from by unfold w103 r103; exact (cond_app (a103 x0 x1 x2 x3) _ (cond_app (a103 x0 x1 x2 x3) _ rfl rfl) rfl))
noncomputable def s103 (args : List Value) (s : St) : List (Bool × Value × St) :=
 match args, s.h with
 | [.agg ⟨[.float .f32 x0, .float .f32 x1]⟩, .agg ⟨[.float .f32 x2, .float .f32 x3]⟩], [] => [((Nat.beq ((r103 x0 x1 x2 x3).1) 0), .agg #[.float .f32 ((r103 x0 x1 x2 x3).2.1), .float .f32 ((r103 x0 x1 x2 x3).2.2)], st0)]
 | _, _ => T61 103 args s
noncomputable def T62 : CallF := addF T61 103 s103
set_option maxRecDepth 100000 in
set_option maxHeartbeats 4000000 in
theorem ok62 : CfOk Try.prog T62 := by
  refine cfOk_add ok61 fun args s r s' h1 h2 h3 => ?_
  unfold s103 at h3; split at h3
  · rename_i h; exact callOk ok61 Try.func103 h1 h2 h (lfOkF_no _ _).body (e103 _ _ _ _) rfl h3
  · exact ok61 _ _ _ _ _ h1 h2 h3

/-- impl.lesser -/
noncomputable def r95 (x0 x1 : Nat) : Nat :=
 cond (flt .f32 x1 x0)
  (x1)
  (x0)
noncomputable def a95 (x0 x1 : Nat) (p : Nat) : Res := firstT [(true, .float .f32 p, st0)]
noncomputable def w95 (x0 x1 : Nat) : Res :=
 (cond (flt .f32 x1 x0)
 (a95 x0 x1 (x1))
 (a95 x0 x1 (x0)))
set_option maxRecDepth 100000 in
set_option maxHeartbeats 4000000 in
theorem e95 (x0 x1 : Nat) : evFn Try.prog ext T62 noL 200 Try.f95 [.float .f32 x0, .float .f32 x1] st0 = firstT [(true, .float .f32 (r95 x0 x1), st0)] :=
 (show evFn Try.prog ext T62 noL 200 Try.f95 [.float .f32 x0, .float .f32 x1] st0 = w95 x0 x1 from by kernel_rfl).trans
 (show w95 x0 x1 = a95 x0 x1 (r95 x0 x1) from by unfold w95 r95; exact (cond_app (a95 x0 x1) _ rfl rfl))
noncomputable def s95 (args : List Value) (s : St) : List (Bool × Value × St) :=
 match args, s.h with
 | [.float .f32 x0, .float .f32 x1], [] => [(true, .float .f32 (r95 x0 x1), st0)]
 | _, _ => T62 95 args s
noncomputable def T63 : CallF := addF T62 95 s95
set_option maxRecDepth 100000 in
set_option maxHeartbeats 4000000 in
theorem ok63 : CfOk Try.prog T63 := by
  refine cfOk_add ok62 fun args s r s' h1 h2 h3 => ?_
  unfold s95 at h3; split at h3
  · rename_i h; exact callOk ok62 Try.func95 h1 h2 h (lfOkF_no _ _).body (e95 _ _) rfl h3
  · exact ok62 _ _ _ _ _ h1 h2 h3

/-- impl.greater -/
noncomputable def r96 (x0 x1 : Nat) : Nat :=
 cond (fgt .f32 x1 x0)
  (x1)
  (x0)
noncomputable def a96 (x0 x1 : Nat) (p : Nat) : Res := firstT [(true, .float .f32 p, st0)]
noncomputable def w96 (x0 x1 : Nat) : Res :=
 (cond (fgt .f32 x1 x0)
 (a96 x0 x1 (x1))
 (a96 x0 x1 (x0)))
set_option maxRecDepth 100000 in
set_option maxHeartbeats 4000000 in
theorem e96 (x0 x1 : Nat) : evFn Try.prog ext T63 noL 200 Try.f96 [.float .f32 x0, .float .f32 x1] st0 = firstT [(true, .float .f32 (r96 x0 x1), st0)] :=
 (show evFn Try.prog ext T63 noL 200 Try.f96 [.float .f32 x0, .float .f32 x1] st0 = w96 x0 x1 from by kernel_rfl).trans
 (show w96 x0 x1 = a96 x0 x1 (r96 x0 x1) from by unfold w96 r96; exact (cond_app (a96 x0 x1) _ rfl rfl))
noncomputable def s96 (args : List Value) (s : St) : List (Bool × Value × St) :=
 match args, s.h with
 | [.float .f32 x0, .float .f32 x1], [] => [(true, .float .f32 (r96 x0 x1), st0)]
 | _, _ => T63 96 args s
noncomputable def T64 : CallF := addF T63 96 s96
set_option maxRecDepth 100000 in
set_option maxHeartbeats 4000000 in
theorem ok64 : CfOk Try.prog T64 := by
  refine cfOk_add ok63 fun args s r s' h1 h2 h3 => ?_
  unfold s96 at h3; split at h3
  · rename_i h; exact callOk ok63 Try.func96 h1 h2 h (lfOkF_no _ _).body (e96 _ _) rfl h3
  · exact ok63 _ _ _ _ _ h1 h2 h3

/-- impl.mulSpans -/
noncomputable def r104 (x0 x1 x2 x3 : Nat) : Nat × Nat × Nat :=
 cond (!feq .f32 (fmul .f32 x0 x2) (fmul .f32 x0 x2))
  (cond (Nat.beq ((r116 (-1)).1) 0)
  (cond (Nat.beq ((r116 1).1) 0)
  (0, ((r116 (-1)).2), ((r116 1).2))
  (1, 0, 0))
  (1, 0, 0))
  (cond (!feq .f32 (fmul .f32 x0 x3) (fmul .f32 x0 x3))
  (cond (Nat.beq ((r116 (-1)).1) 0)
  (cond (Nat.beq ((r116 1).1) 0)
  (0, ((r116 (-1)).2), ((r116 1).2))
  (1, 0, 0))
  (1, 0, 0))
  (cond (!feq .f32 (fmul .f32 x1 x2) (fmul .f32 x1 x2))
  (cond (Nat.beq ((r116 (-1)).1) 0)
  (cond (Nat.beq ((r116 1).1) 0)
  (0, ((r116 (-1)).2), ((r116 1).2))
  (1, 0, 0))
  (1, 0, 0))
  (cond (!feq .f32 (fmul .f32 x1 x3) (fmul .f32 x1 x3))
  (cond (Nat.beq ((r116 (-1)).1) 0)
  (cond (Nat.beq ((r116 1).1) 0)
  (0, ((r116 (-1)).2), ((r116 1).2))
  (1, 0, 0))
  (1, 0, 0))
  (0, (r117 (r95 (r95 (r95 (r95 (fmul .f32 x0 x2) (fmul .f32 x0 x2)) (fmul .f32 x0 x3)) (fmul .f32 x1 x2)) (fmul .f32 x1 x3))), (r118 (r96 (r96 (r96 (r96 (fmul .f32 x0 x2) (fmul .f32 x0 x2)) (fmul .f32 x0 x3)) (fmul .f32 x1 x2)) (fmul .f32 x1 x3)))))))
noncomputable def a104 (x0 x1 x2 x3 : Nat) (p : Nat × Nat × Nat) : Res := firstT [((Nat.beq (p.1) 0), .agg #[.float .f32 (p.2.1), .float .f32 (p.2.2)], st0)]
noncomputable def w104 (x0 x1 x2 x3 : Nat) : Res :=
 (cond (!feq .f32 (fmul .f32 x0 x2) (fmul .f32 x0 x2))
 (cond (Nat.beq ((r116 (-1)).1) 0)
  (cond (Nat.beq ((r116 1).1) 0)
  (a104 x0 x1 x2 x3 (0, ((r116 (-1)).2), ((r116 1).2)))
  none)
  none)
 (cond (!feq .f32 (fmul .f32 x0 x3) (fmul .f32 x0 x3))
  (cond (Nat.beq ((r116 (-1)).1) 0)
  (cond (Nat.beq ((r116 1).1) 0)
  (a104 x0 x1 x2 x3 (0, ((r116 (-1)).2), ((r116 1).2)))
  none)
  none)
  (cond (!feq .f32 (fmul .f32 x1 x2) (fmul .f32 x1 x2))
  (cond (Nat.beq ((r116 (-1)).1) 0)
  (cond (Nat.beq ((r116 1).1) 0)
  (a104 x0 x1 x2 x3 (0, ((r116 (-1)).2), ((r116 1).2)))
  none)
  none)
  (cond (!feq .f32 (fmul .f32 x1 x3) (fmul .f32 x1 x3))
  (cond (Nat.beq ((r116 (-1)).1) 0)
  (cond (Nat.beq ((r116 1).1) 0)
  (a104 x0 x1 x2 x3 (0, ((r116 (-1)).2), ((r116 1).2)))
  none)
  none)
  (a104 x0 x1 x2 x3 (0, (r117 (r95 (r95 (r95 (r95 (fmul .f32 x0 x2) (fmul .f32 x0 x2)) (fmul .f32 x0 x3)) (fmul .f32 x1 x2)) (fmul .f32 x1 x3))), (r118 (r96 (r96 (r96 (r96 (fmul .f32 x0 x2) (fmul .f32 x0 x2)) (fmul .f32 x0 x3)) (fmul .f32 x1 x2)) (fmul .f32 x1 x3)))))))))
set_option maxRecDepth 100000 in
set_option maxHeartbeats 4000000 in
theorem e104 (x0 x1 x2 x3 : Nat) : evFn Try.prog ext T64 noL 200 Try.f104 [.agg #[.float .f32 x0, .float .f32 x1], .agg #[.float .f32 x2, .float .f32 x3]] st0 = firstT [((Nat.beq ((r104 x0 x1 x2 x3).1) 0), .agg #[.float .f32 ((r104 x0 x1 x2 x3).2.1), .float .f32 ((r104 x0 x1 x2 x3).2.2)], st0)] :=
 (show evFn Try.prog ext T64 noL 200 Try.f104 [.agg #[.float .f32 x0, .float .f32 x1], .agg #[.float .f32 x2, .float .f32 x3]] st0 = w104 x0 x1 x2 x3 from by kernel_rfl).trans
 (show w104 x0 x1 x2 x3 = a104 x0 x1 x2 x3 (r104 x0 x1 x2 x3) from by unfold w104 r104; exact (cond_app (a104 x0 x1 x2 x3) _ (cond_app (a104 x0 x1 x2 x3) _ (cond_app (a104 x0 x1 x2 x3) _ rfl rfl) rfl) (cond_app (a104 x0 x1 x2 x3) _ (cond_app (a104 x0 x1 x2 x3) _ (cond_app (a104 x0 x1 x2 x3) _ rfl rfl) rfl) (cond_app (a104 x0 x1 x2 x3) _ (cond_app (a104 x0 x1 x2 x3) _ (cond_app (a104 x0 x1 x2 x3) _ rfl rfl) rfl) (cond_app (a104 x0 x1 x2 x3) _ (cond_app (a104 x0 x1 x2 x3) _ (cond_app (a104 x0 x1 x2 x3) _ rfl rfl) rfl) rfl)))))
noncomputable def s104 (args : List Value) (s : St) : List (Bool × Value × St) :=
 match args, s.h with
 | [.agg ⟨[.float .f32 x0, .float .f32 x1]⟩, .agg ⟨[.float .f32 x2, .float .f32 x3]⟩], [] => [((Nat.beq ((r104 x0 x1 x2 x3).1) 0), .agg #[.float .f32 ((r104 x0 x1 x2 x3).2.1), .float .f32 ((r104 x0 x1 x2 x3).2.2)], st0)]
 | _, _ => T64 104 args s
noncomputable def T65 : CallF := addF T64 104 s104
set_option maxRecDepth 100000 in
set_option maxHeartbeats 4000000 in
theorem ok65 : CfOk Try.prog T65 := by
  refine cfOk_add ok64 fun args s r s' h1 h2 h3 => ?_
  unfold s104 at h3; split at h3
  · rename_i h; exact callOk ok64 Try.func104 h1 h2 h (lfOkF_no _ _).body (e104 _ _ _ _) rfl h3
  · exact ok64 _ _ _ _ _ h1 h2 h3

/-- impl.lessSpans -/
noncomputable def r105 (x0 x1 x2 x3 : Nat) : Nat × Nat :=
 cond (flt .f32 x1 x2)
  (1065353216, 1065353216)
  (cond (fgt .f32 x0 x3 || feq .f32 x0 x3)
  (0, 0)
  (0, 1065353216))
noncomputable def a105 (x0 x1 x2 x3 : Nat) (p : Nat × Nat) : Res := firstT [(true, .agg #[.float .f32 (p.1), .float .f32 (p.2)], st0)]
noncomputable def w105 (x0 x1 x2 x3 : Nat) : Res :=
 (cond (flt .f32 x1 x2)
 (a105 x0 x1 x2 x3 (1065353216, 1065353216))
 (cond (fgt .f32 x0 x3 || feq .f32 x0 x3)
  (a105 x0 x1 x2 x3 (0, 0))
  (a105 x0 x1 x2 x3 (0, 1065353216))))
set_option maxRecDepth 100000 in
set_option maxHeartbeats 4000000 in
theorem e105 (x0 x1 x2 x3 : Nat) : evFn Try.prog ext T65 noL 200 Try.f105 [.agg #[.float .f32 x0, .float .f32 x1], .agg #[.float .f32 x2, .float .f32 x3]] st0 = firstT [(true, .agg #[.float .f32 ((r105 x0 x1 x2 x3).1), .float .f32 ((r105 x0 x1 x2 x3).2)], st0)] :=
 (show evFn Try.prog ext T65 noL 200 Try.f105 [.agg #[.float .f32 x0, .float .f32 x1], .agg #[.float .f32 x2, .float .f32 x3]] st0 = w105 x0 x1 x2 x3 from by kernel_rfl).trans
 (show w105 x0 x1 x2 x3 = a105 x0 x1 x2 x3 (r105 x0 x1 x2 x3) from by unfold w105 r105; exact (cond_app (a105 x0 x1 x2 x3) _ rfl (cond_app (a105 x0 x1 x2 x3) _ rfl rfl)))
noncomputable def s105 (args : List Value) (s : St) : List (Bool × Value × St) :=
 match args, s.h with
 | [.agg ⟨[.float .f32 x0, .float .f32 x1]⟩, .agg ⟨[.float .f32 x2, .float .f32 x3]⟩], [] => [(true, .agg #[.float .f32 ((r105 x0 x1 x2 x3).1), .float .f32 ((r105 x0 x1 x2 x3).2)], st0)]
 | _, _ => T65 105 args s
noncomputable def T66 : CallF := addF T65 105 s105
set_option maxRecDepth 100000 in
set_option maxHeartbeats 4000000 in
theorem ok66 : CfOk Try.prog T66 := by
  refine cfOk_add ok65 fun args s r s' h1 h2 h3 => ?_
  unfold s105 at h3; split at h3
  · rename_i h; exact callOk ok65 Try.func105 h1 h2 h (lfOkF_no _ _).body (e105 _ _ _ _) rfl h3
  · exact ok65 _ _ _ _ _ h1 h2 h3

/-- impl.joinSpans -/
noncomputable def r106 (x0 x1 x2 x3 : Nat) : Nat × Nat :=
 ((r95 x0 x2), (r96 x1 x3))
noncomputable def a106 (x0 x1 x2 x3 : Nat) (p : Nat × Nat) : Res := firstT [(true, .agg #[.float .f32 (p.1), .float .f32 (p.2)], st0)]
noncomputable def w106 (x0 x1 x2 x3 : Nat) : Res :=
 (a106 x0 x1 x2 x3 ((r95 x0 x2), (r96 x1 x3)))
set_option maxRecDepth 100000 in
set_option maxHeartbeats 4000000 in
theorem e106 (x0 x1 x2 x3 : Nat) : evFn Try.prog ext T66 noL 200 Try.f106 [.agg #[.float .f32 x0, .float .f32 x1], .agg #[.float .f32 x2, .float .f32 x3]] st0 = firstT [(true, .agg #[.float .f32 ((r106 x0 x1 x2 x3).1), .float .f32 ((r106 x0 x1 x2 x3).2)], st0)] :=
 (show evFn Try.prog ext T66 noL 200 Try.f106 [.agg #[.float .f32 x0, .float .f32 x1], .agg #[.float .f32 x2, .float .f32 x3]] st0 = w106 x0 x1 x2 x3 from by kernel_rfl).trans
 (show w106 x0 x1 x2 x3 = a106 x0 x1 x2 x3 (r106 x0 x1 x2 x3) from by unfold w106 r106; exact rfl)
noncomputable def s106 (args : List Value) (s : St) : List (Bool × Value × St) :=
 match args, s.h with
 | [.agg ⟨[.float .f32 x0, .float .f32 x1]⟩, .agg ⟨[.float .f32 x2, .float .f32 x3]⟩], [] => [(true, .agg #[.float .f32 ((r106 x0 x1 x2 x3).1), .float .f32 ((r106 x0 x1 x2 x3).2)], st0)]
 | _, _ => T66 106 args s
noncomputable def T67 : CallF := addF T66 106 s106
set_option maxRecDepth 100000 in
set_option maxHeartbeats 4000000 in
theorem ok67 : CfOk Try.prog T67 := by
  refine cfOk_add ok66 fun args s r s' h1 h2 h3 => ?_
  unfold s106 at h3; split at h3
  · rename_i h; exact callOk ok66 Try.func106 h1 h2 h (lfOkF_no _ _).body (e106 _ _ _ _) rfl h3
  · exact ok66 _ _ _ _ _ h1 h2 h3

/-- impl.doSpans -/
noncomputable def r90 (x0 : Int) (x1 x2 x3 : Nat) (x4 : List (List Int)) : Nat × Nat × Nat :=
 let c753 := (r102 (Int.toNat ((x4.getD (x1 + 0) []).getD 0 0)) (Int.toNat ((x4.getD (x1 + 0) []).getD 1 0)) (Int.toNat ((x4.getD (x1 + (Int.toNat (IntKind.i64.wrap (((x2 : Nat) : Int) - 1)))) []).getD 0 0)) (Int.toNat ((x4.getD (x1 + (Int.toNat (IntKind.i64.wrap (((x2 : Nat) : Int) - 1)))) []).getD 1 0)))
 let c754 := (r103 (Int.toNat ((x4.getD (x1 + 0) []).getD 0 0)) (Int.toNat ((x4.getD (x1 + 0) []).getD 1 0)) (Int.toNat ((x4.getD (x1 + (Int.toNat (IntKind.i64.wrap (((x2 : Nat) : Int) - 1)))) []).getD 0 0)) (Int.toNat ((x4.getD (x1 + (Int.toNat (IntKind.i64.wrap (((x2 : Nat) : Int) - 1)))) []).getD 1 0)))
 let c755 := (r104 (Int.toNat ((x4.getD (x1 + 0) []).getD 0 0)) (Int.toNat ((x4.getD (x1 + 0) []).getD 1 0)) (Int.toNat ((x4.getD (x1 + (Int.toNat (IntKind.i64.wrap (((x2 : Nat) : Int) - 1)))) []).getD 0 0)) (Int.toNat ((x4.getD (x1 + (Int.toNat (IntKind.i64.wrap (((x2 : Nat) : Int) - 1)))) []).getD 1 0)))
 let c756 := (r105 (Int.toNat ((x4.getD (x1 + 0) []).getD 0 0)) (Int.toNat ((x4.getD (x1 + 0) []).getD 1 0)) (Int.toNat ((x4.getD (x1 + (Int.toNat (IntKind.i64.wrap (((x2 : Nat) : Int) - 1)))) []).getD 0 0)) (Int.toNat ((x4.getD (x1 + (Int.toNat (IntKind.i64.wrap (((x2 : Nat) : Int) - 1)))) []).getD 1 0)))
 let c757 := (r95 (Int.toNat ((x4.getD (x1 + 0) []).getD 0 0)) (Int.toNat ((x4.getD (x1 + (Int.toNat (IntKind.i64.wrap (((x2 : Nat) : Int) - 1)))) []).getD 0 0)))
 let c758 := (r95 (Int.toNat ((x4.getD (x1 + 0) []).getD 1 0)) (Int.toNat ((x4.getD (x1 + (Int.toNat (IntKind.i64.wrap (((x2 : Nat) : Int) - 1)))) []).getD 1 0)))
 let c759 := (r96 (Int.toNat ((x4.getD (x1 + 0) []).getD 0 0)) (Int.toNat ((x4.getD (x1 + (Int.toNat (IntKind.i64.wrap (((x2 : Nat) : Int) - 1)))) []).getD 0 0)))
 let c760 := (r96 (Int.toNat ((x4.getD (x1 + 0) []).getD 1 0)) (Int.toNat ((x4.getD (x1 + (Int.toNat (IntKind.i64.wrap (((x2 : Nat) : Int) - 1)))) []).getD 1 0)))
 let c761 := (r106 (Int.toNat ((x4.getD (x1 + 1) []).getD 0 0)) (Int.toNat ((x4.getD (x1 + 1) []).getD 1 0)) (Int.toNat ((x4.getD (x1 + (Int.toNat (IntKind.i64.wrap (((x2 : Nat) : Int) - 1)))) []).getD 0 0)) (Int.toNat ((x4.getD (x1 + (Int.toNat (IntKind.i64.wrap (((x2 : Nat) : Int) - 1)))) []).getD 1 0)))
 cond (Nat.blt 0 x2)
  (cond (Nat.blt (x1 + 0) x4.length)
  (cond ((decide ((0 : Int) ≤ (IntKind.i64.wrap (((x2 : Nat) : Int) - 1)))) && (Nat.blt (Int.toNat (IntKind.i64.wrap (((x2 : Nat) : Int) - 1))) x2))
  (cond (Nat.blt (x1 + (Int.toNat (IntKind.i64.wrap (((x2 : Nat) : Int) - 1)))) x4.length)
  (cond ((x0 : Int) == 5)
  (cond (Nat.beq (c753.1) 0)
  (0, (c753.2.1), (c753.2.2))
  (1, 0, 0))
  (cond ((x0 : Int) == 6)
  (cond (Nat.beq (c754.1) 0)
  (0, (c754.2.1), (c754.2.2))
  (1, 0, 0))
  (cond ((x0 : Int) == 7)
  (cond (Nat.beq (c755.1) 0)
  (0, (c755.2.1), (c755.2.2))
  (1, 0, 0))
  (cond ((x0 : Int) == 8)
  (0, (c756.1), (c756.2))
  (cond ((x0 : Int) == 9)
  (0, c757, c758)
  (cond ((x0 : Int) == 10)
  (0, c759, c760)
  (cond ((x0 : Int) == 12)
  (0, (fneg .f32 (Int.toNat ((x4.getD (x1 + 0) []).getD 1 0))), (fneg .f32 (Int.toNat ((x4.getD (x1 + 0) []).getD 0 0))))
  (cond (fgt .f32 (Int.toNat ((x4.getD (x1 + 0) []).getD 0 0)) 0)
  (cond (Nat.blt 1 x2)
  (cond (Nat.blt (x1 + 1) x4.length)
  (0, (Int.toNat ((x4.getD (x1 + 1) []).getD 0 0)), (Int.toNat ((x4.getD (x1 + 1) []).getD 1 0)))
  (1, 0, 0))
  (1, 0, 0))
  (cond (flt .f32 (Int.toNat ((x4.getD (x1 + 0) []).getD 1 0)) 0 || feq .f32 (Int.toNat ((x4.getD (x1 + 0) []).getD 1 0)) 0)
  (0, (Int.toNat ((x4.getD (x1 + (Int.toNat (IntKind.i64.wrap (((x2 : Nat) : Int) - 1)))) []).getD 0 0)), (Int.toNat ((x4.getD (x1 + (Int.toNat (IntKind.i64.wrap (((x2 : Nat) : Int) - 1)))) []).getD 1 0)))
  (cond (Nat.blt 1 x2)
  (cond (Nat.blt (x1 + 1) x4.length)
  (0, (c761.1), (c761.2))
  (1, 0, 0))
  (1, 0, 0)))))))))))
  (1, 0, 0))
  (1, 0, 0))
  (1, 0, 0))
  (1, 0, 0)
noncomputable def a90 (x0 : Int) (x1 x2 x3 : Nat) (x4 : List (List Int)) (p : Nat × Nat × Nat) : Res := firstT [((Nat.beq (p.1) 0), .agg #[.float .f32 (p.2.1), .float .f32 (p.2.2)], ⟨[⟨true, (some (.tab [.fl .f32, .fl .f32] x4))⟩], 1, []⟩)]
noncomputable def w90 (x0 : Int) (x1 x2 x3 : Nat) (x4 : List (List Int)) : Res :=
 let c753 := (r102 (Int.toNat ((x4.getD (x1 + 0) []).getD 0 0)) (Int.toNat ((x4.getD (x1 + 0) []).getD 1 0)) (Int.toNat ((x4.getD (x1 + (Int.toNat (IntKind.i64.wrap (((x2 : Nat) : Int) - 1)))) []).getD 0 0)) (Int.toNat ((x4.getD (x1 + (Int.toNat (IntKind.i64.wrap (((x2 : Nat) : Int) - 1)))) []).getD 1 0)))
 let c754 := (r103 (Int.toNat ((x4.getD (x1 + 0) []).getD 0 0)) (Int.toNat ((x4.getD (x1 + 0) []).getD 1 0)) (Int.toNat ((x4.getD (x1 + (Int.toNat (IntKind.i64.wrap (((x2 : Nat) : Int) - 1)))) []).getD 0 0)) (Int.toNat ((x4.getD (x1 + (Int.toNat (IntKind.i64.wrap (((x2 : Nat) : Int) - 1)))) []).getD 1 0)))
 let c755 := (r104 (Int.toNat ((x4.getD (x1 + 0) []).getD 0 0)) (Int.toNat ((x4.getD (x1 + 0) []).getD 1 0)) (Int.toNat ((x4.getD (x1 + (Int.toNat (IntKind.i64.wrap (((x2 : Nat) : Int) - 1)))) []).getD 0 0)) (Int.toNat ((x4.getD (x1 + (Int.toNat (IntKind.i64.wrap (((x2 : Nat) : Int) - 1)))) []).getD 1 0)))
 let c756 := (r105 (Int.toNat ((x4.getD (x1 + 0) []).getD 0 0)) (Int.toNat ((x4.getD (x1 + 0) []).getD 1 0)) (Int.toNat ((x4.getD (x1 + (Int.toNat (IntKind.i64.wrap (((x2 : Nat) : Int) - 1)))) []).getD 0 0)) (Int.toNat ((x4.getD (x1 + (Int.toNat (IntKind.i64.wrap (((x2 : Nat) : Int) - 1)))) []).getD 1 0)))
 let c757 := (r95 (Int.toNat ((x4.getD (x1 + 0) []).getD 0 0)) (Int.toNat ((x4.getD (x1 + (Int.toNat (IntKind.i64.wrap (((x2 : Nat) : Int) - 1)))) []).getD 0 0)))
 let c758 := (r95 (Int.toNat ((x4.getD (x1 + 0) []).getD 1 0)) (Int.toNat ((x4.getD (x1 + (Int.toNat (IntKind.i64.wrap (((x2 : Nat) : Int) - 1)))) []).getD 1 0)))
 let c759 := (r96 (Int.toNat ((x4.getD (x1 + 0) []).getD 0 0)) (Int.toNat ((x4.getD (x1 + (Int.toNat (IntKind.i64.wrap (((x2 : Nat) : Int) - 1)))) []).getD 0 0)))
 let c760 := (r96 (Int.toNat ((x4.getD (x1 + 0) []).getD 1 0)) (Int.toNat ((x4.getD (x1 + (Int.toNat (IntKind.i64.wrap (((x2 : Nat) : Int) - 1)))) []).getD 1 0)))
 let c761 := (r106 (Int.toNat ((x4.getD (x1 + 1) []).getD 0 0)) (Int.toNat ((x4.getD (x1 + 1) []).getD 1 0)) (Int.toNat ((x4.getD (x1 + (Int.toNat (IntKind.i64.wrap (((x2 : Nat) : Int) - 1)))) []).getD 0 0)) (Int.toNat ((x4.getD (x1 + (Int.toNat (IntKind.i64.wrap (((x2 : Nat) : Int) - 1)))) []).getD 1 0)))
 (cond (Nat.blt 0 x2)
 (cond (Nat.blt (x1 + 0) x4.length)
  (cond ((decide ((0 : Int) ≤ (IntKind.i64.wrap (((x2 : Nat) : Int) - 1)))) && (Nat.blt (Int.toNat (IntKind.i64.wrap (((x2 : Nat) : Int) - 1))) x2))
  (cond (Nat.blt (x1 + (Int.toNat (IntKind.i64.wrap (((x2 : Nat) : Int) - 1)))) x4.length)
  (cond ((x0 : Int) == 5)
  (cond (Nat.beq (c753.1) 0)
  (a90 x0 x1 x2 x3 x4 (0, (c753.2.1), (c753.2.2)))
  none)
  (cond ((x0 : Int) == 6)
  (cond (Nat.beq (c754.1) 0)
  (a90 x0 x1 x2 x3 x4 (0, (c754.2.1), (c754.2.2)))
  none)
  (cond ((x0 : Int) == 7)
  (cond (Nat.beq (c755.1) 0)
  (a90 x0 x1 x2 x3 x4 (0, (c755.2.1), (c755.2.2)))
  none)
  (cond ((x0 : Int) == 8)
  (a90 x0 x1 x2 x3 x4 (0, (c756.1), (c756.2)))
  (cond ((x0 : Int) == 9)
  (a90 x0 x1 x2 x3 x4 (0, c757, c758))
  (cond ((x0 : Int) == 10)
  (a90 x0 x1 x2 x3 x4 (0, c759, c760))
  (cond ((x0 : Int) == 12)
  (a90 x0 x1 x2 x3 x4 (0, (fneg .f32 (Int.toNat ((x4.getD (x1 + 0) []).getD 1 0))), (fneg .f32 (Int.toNat ((x4.getD (x1 + 0) []).getD 0 0)))))
  (cond (fgt .f32 (Int.toNat ((x4.getD (x1 + 0) []).getD 0 0)) 0)
  (cond (Nat.blt 1 x2)
  (cond (Nat.blt (x1 + 1) x4.length)
  (a90 x0 x1 x2 x3 x4 (0, (Int.toNat ((x4.getD (x1 + 1) []).getD 0 0)), (Int.toNat ((x4.getD (x1 + 1) []).getD 1 0))))
  none)
  none)
  (cond (flt .f32 (Int.toNat ((x4.getD (x1 + 0) []).getD 1 0)) 0 || feq .f32 (Int.toNat ((x4.getD (x1 + 0) []).getD 1 0)) 0)
  (a90 x0 x1 x2 x3 x4 (0, (Int.toNat ((x4.getD (x1 + (Int.toNat (IntKind.i64.wrap (((x2 : Nat) : Int) - 1)))) []).getD 0 0)), (Int.toNat ((x4.getD (x1 + (Int.toNat (IntKind.i64.wrap (((x2 : Nat) : Int) - 1)))) []).getD 1 0))))
  (cond (Nat.blt 1 x2)
  (cond (Nat.blt (x1 + 1) x4.length)
  (a90 x0 x1 x2 x3 x4 (0, (c761.1), (c761.2)))
  none)
  none))))))))))
  none)
  none)
  none)
 none)
set_option maxRecDepth 100000 in
set_option maxHeartbeats 4000000 in
theorem e90 (x0 : Int) (x1 x2 x3 : Nat) (x4 : List (List Int)) : evFn Try.prog ext T67 noL 200 Try.f90 [.int .i8 x0, .slice (some ⟨0, x1, some 0⟩) x2 x3] ⟨[⟨true, (some (.tab [.fl .f32, .fl .f32] x4))⟩], 1, []⟩ = firstT [((Nat.beq ((r90 x0 x1 x2 x3 x4).1) 0), .agg #[.float .f32 ((r90 x0 x1 x2 x3 x4).2.1), .float .f32 ((r90 x0 x1 x2 x3 x4).2.2)], ⟨[⟨true, (some (.tab [.fl .f32, .fl .f32] x4))⟩], 1, []⟩)] :=
 (show evFn Try.prog ext T67 noL 200 Try.f90 [.int .i8 x0, .slice (some ⟨0, x1, some 0⟩) x2 x3] ⟨[⟨true, (some (.tab [.fl .f32, .fl .f32] x4))⟩], 1, []⟩ = w90 x0 x1 x2 x3 x4 from by kernel_rfl).trans
 (show w90 x0 x1 x2 x3 x4 = a90 x0 x1 x2 x3 x4 (r90 x0 x1 x2 x3 x4) from by unfold w90 r90; exact (cond_app (a90 x0 x1 x2 x3 x4) _ (cond_app (a90 x0 x1 x2 x3 x4) _ (cond_app (a90 x0 x1 x2 x3 x4) _ (cond_app (a90 x0 x1 x2 x3 x4) _ (cond_app (a90 x0 x1 x2 x3 x4) _ (cond_app (a90 x0 x1 x2 x3 x4) _ rfl rfl) (cond_app (a90 x0 x1 x2 x3 x4) _ (cond_app (a90 x0 x1 x2 x3 x4) _ rfl rfl) (cond_app (a90 x0 x1 x2 x3 x4) _ (cond_app (a90 x0 x1 x2 x3 x4) _ rfl rfl) (cond_app (a90 x0 x1 x2 x3 x4) _ rfl (cond_app (a90 x0 x1 x2 x3 x4) _ rfl (cond_app (a90 x0 x1 x2 x3 x4) _ rfl (cond_app (a90 x0 x1 x2 x3 x4) _ rfl (cond_app (a90 x0 x1 x2 x3 x4) _ (cond_app (a90 x0 x1 x2 x3 x4) _ (cond_app (a90 x0 x1 x2 x3 x4) _ rfl rfl) rfl) (cond_app (a90 x0 x1 x2 x3 x4) _ rfl (cond_app (a90 x0 x1 x2 x3 x4) _ (cond_app (a90 x0 x1 x2 x3 x4) _ rfl rfl) rfl)))))))))) rfl) rfl) rfl) rfl))
noncomputable def s90 (args : List Value) (s : St) : List (Bool × Value × St) :=
 match args, s.h with
 | [.int .i8 x0, .slice (some ⟨f0, x1, some f1⟩) x2 x3], [⟨true, some (.tab [.fl .f32, .fl .f32] x4)⟩] => if f0 = 0 ∧ f1 = 0 then [((Nat.beq ((r90 x0 x1 x2 x3 x4).1) 0), .agg #[.float .f32 ((r90 x0 x1 x2 x3 x4).2.1), .float .f32 ((r90 x0 x1 x2 x3 x4).2.2)], ⟨[⟨true, (some (.tab [.fl .f32, .fl .f32] x4))⟩], 1, []⟩)] else T67 90 args s
 | _, _ => T67 90 args s
noncomputable def T68 : CallF := addF T67 90 s90
set_option maxRecDepth 100000 in
set_option maxHeartbeats 4000000 in
theorem ok68 : CfOk Try.prog T68 := by
  refine cfOk_add ok67 fun args s r s' h1 h2 h3 => ?_
  unfold s90 at h3; split at h3
  · rename_i h; split at h3
    · rename_i hc; obtain ⟨rfl, rfl⟩ := hc; exact callOk ok67 Try.func90 h1 h2 h (lfOkF_no _ _).body (e90 _ _ _ _ _) rfl h3
    · exact ok67 _ _ _ _ _ h1 h2 h3
  · exact ok67 _ _ _ _ _ h1 h2 h3

/-- impl.runOn[impl.Span], loop 0: one round -/
noncomputable def b88l0 (ih : Int → Int → Nat → Nat → Nat → Nat → Nat → Nat → Nat → Nat → List (List Int) → List (List Int) → List (List Int) → (Nat × List (List Int))) (x0 x1 : Int) (x2 x3 x4 x5 x6 x7 x8 x9 : Nat) (x10 x11 x12 : List (List Int)) : Nat × List (List Int) :=
 let c895 := (r90 ((x12.getD (Int.toNat x1) []).getD 0 0) (Int.toNat (IntKind.i64.wrap (((x11.length : Nat) : Int) - ((r53 ((x12.getD (Int.toNat x1) []).getD 0 0)).1)))) (x11.length - (Int.toNat (IntKind.i64.wrap (((x11.length : Nat) : Int) - ((r53 ((x12.getD (Int.toNat x1) []).getD 0 0)).1))))) (x11.length - (Int.toNat (IntKind.i64.wrap (((x11.length : Nat) : Int) - ((r53 ((x12.getD (Int.toNat x1) []).getD 0 0)).1))))) x11)
 cond (decide ((x1 : Int) < x0))
  (cond ((decide ((0 : Int) ≤ x1)) && (Nat.blt (Int.toNat x1) x12.length))
  (cond ((((x12.getD (Int.toNat x1) []).getD 0 0) : Int) == 1)
  (cond (Nat.ble ((x11.length + 1) * 9) 140737488355328)
  (cond (Nat.beq ((ih x0 (IntKind.i64.wrap (x1 + 1)) x2 x3 x4 x5 x6 x7 x8 x9 x10 (((x11.drop 0).take x11.length) ++ ([[(((Int.toNat ((x12.getD (Int.toNat x1) []).getD 2 0)) : Nat) : Int), (((Int.toNat ((x12.getD (Int.toNat x1) []).getD 2 0)) : Nat) : Int)]] : List (List Int))) x12).1) 0)
  (0, [])
  (cond (Nat.beq ((ih x0 (IntKind.i64.wrap (x1 + 1)) x2 x3 x4 x5 x6 x7 x8 x9 x10 (((x11.drop 0).take x11.length) ++ ([[(((Int.toNat ((x12.getD (Int.toNat x1) []).getD 2 0)) : Nat) : Int), (((Int.toNat ((x12.getD (Int.toNat x1) []).getD 2 0)) : Nat) : Int)]] : List (List Int))) x12).1) 1)
  (1, ((ih x0 (IntKind.i64.wrap (x1 + 1)) x2 x3 x4 x5 x6 x7 x8 x9 x10 (((x11.drop 0).take x11.length) ++ ([[(((Int.toNat ((x12.getD (Int.toNat x1) []).getD 2 0)) : Nat) : Int), (((Int.toNat ((x12.getD (Int.toNat x1) []).getD 2 0)) : Nat) : Int)]] : List (List Int))) x12).2))
  (cond (Nat.beq ((ih x0 (IntKind.i64.wrap (x1 + 1)) x2 x3 x4 x5 x6 x7 x8 x9 x10 (((x11.drop 0).take x11.length) ++ ([[(((Int.toNat ((x12.getD (Int.toNat x1) []).getD 2 0)) : Nat) : Int), (((Int.toNat ((x12.getD (Int.toNat x1) []).getD 2 0)) : Nat) : Int)]] : List (List Int))) x12).1) 2)
  (0, [])
  (3, []))))
  (3, []))
  (cond ((((x12.getD (Int.toNat x1) []).getD 0 0) : Int) == 2)
  (cond ((decide ((0 : Int) ≤ ((x12.getD (Int.toNat x1) []).getD 1 0))) && (Nat.blt (Int.toNat ((x12.getD (Int.toNat x1) []).getD 1 0)) 4))
  (cond (Nat.beq (0 + (Int.toNat ((x12.getD (Int.toNat x1) []).getD 1 0)) * 2) 0)
  (cond (Nat.ble ((x11.length + 1) * 9) 140737488355328)
  (cond (Nat.beq ((ih x0 (IntKind.i64.wrap (x1 + 1)) x2 x3 x4 x5 x6 x7 x8 x9 x10 (((x11.drop 0).take x11.length) ++ ([[((x2 : Nat) : Int), ((x3 : Nat) : Int)]] : List (List Int))) x12).1) 0)
  (0, [])
  (cond (Nat.beq ((ih x0 (IntKind.i64.wrap (x1 + 1)) x2 x3 x4 x5 x6 x7 x8 x9 x10 (((x11.drop 0).take x11.length) ++ ([[((x2 : Nat) : Int), ((x3 : Nat) : Int)]] : List (List Int))) x12).1) 1)
  (1, ((ih x0 (IntKind.i64.wrap (x1 + 1)) x2 x3 x4 x5 x6 x7 x8 x9 x10 (((x11.drop 0).take x11.length) ++ ([[((x2 : Nat) : Int), ((x3 : Nat) : Int)]] : List (List Int))) x12).2))
  (cond (Nat.beq ((ih x0 (IntKind.i64.wrap (x1 + 1)) x2 x3 x4 x5 x6 x7 x8 x9 x10 (((x11.drop 0).take x11.length) ++ ([[((x2 : Nat) : Int), ((x3 : Nat) : Int)]] : List (List Int))) x12).1) 2)
  (0, [])
  (3, []))))
  (3, []))
  (cond (Nat.beq (0 + (Int.toNat ((x12.getD (Int.toNat x1) []).getD 1 0)) * 2) 1)
  (cond (Nat.ble ((x11.length + 1) * 9) 140737488355328)
  (cond (Nat.beq ((ih x0 (IntKind.i64.wrap (x1 + 1)) x2 x3 x4 x5 x6 x7 x8 x9 x10 (((x11.drop 0).take x11.length) ++ ([[((x3 : Nat) : Int), ((x4 : Nat) : Int)]] : List (List Int))) x12).1) 0)
  (0, [])
  (cond (Nat.beq ((ih x0 (IntKind.i64.wrap (x1 + 1)) x2 x3 x4 x5 x6 x7 x8 x9 x10 (((x11.drop 0).take x11.length) ++ ([[((x3 : Nat) : Int), ((x4 : Nat) : Int)]] : List (List Int))) x12).1) 1)
  (1, ((ih x0 (IntKind.i64.wrap (x1 + 1)) x2 x3 x4 x5 x6 x7 x8 x9 x10 (((x11.drop 0).take x11.length) ++ ([[((x3 : Nat) : Int), ((x4 : Nat) : Int)]] : List (List Int))) x12).2))
  (cond (Nat.beq ((ih x0 (IntKind.i64.wrap (x1 + 1)) x2 x3 x4 x5 x6 x7 x8 x9 x10 (((x11.drop 0).take x11.length) ++ ([[((x3 : Nat) : Int), ((x4 : Nat) : Int)]] : List (List Int))) x12).1) 2)
  (0, [])
  (3, []))))
  (3, []))
  (cond (Nat.beq (0 + (Int.toNat ((x12.getD (Int.toNat x1) []).getD 1 0)) * 2) 2)
  (cond (Nat.ble ((x11.length + 1) * 9) 140737488355328)
  (cond (Nat.beq ((ih x0 (IntKind.i64.wrap (x1 + 1)) x2 x3 x4 x5 x6 x7 x8 x9 x10 (((x11.drop 0).take x11.length) ++ ([[((x4 : Nat) : Int), ((x5 : Nat) : Int)]] : List (List Int))) x12).1) 0)
  (0, [])
  (cond (Nat.beq ((ih x0 (IntKind.i64.wrap (x1 + 1)) x2 x3 x4 x5 x6 x7 x8 x9 x10 (((x11.drop 0).take x11.length) ++ ([[((x4 : Nat) : Int), ((x5 : Nat) : Int)]] : List (List Int))) x12).1) 1)
  (1, ((ih x0 (IntKind.i64.wrap (x1 + 1)) x2 x3 x4 x5 x6 x7 x8 x9 x10 (((x11.drop 0).take x11.length) ++ ([[((x4 : Nat) : Int), ((x5 : Nat) : Int)]] : List (List Int))) x12).2))
  (cond (Nat.beq ((ih x0 (IntKind.i64.wrap (x1 + 1)) x2 x3 x4 x5 x6 x7 x8 x9 x10 (((x11.drop 0).take x11.length) ++ ([[((x4 : Nat) : Int), ((x5 : Nat) : Int)]] : List (List Int))) x12).1) 2)
  (0, [])
  (3, []))))
  (3, []))
  (cond (Nat.beq (0 + (Int.toNat ((x12.getD (Int.toNat x1) []).getD 1 0)) * 2) 3)
  (cond (Nat.ble ((x11.length + 1) * 9) 140737488355328)
  (cond (Nat.beq ((ih x0 (IntKind.i64.wrap (x1 + 1)) x2 x3 x4 x5 x6 x7 x8 x9 x10 (((x11.drop 0).take x11.length) ++ ([[((x5 : Nat) : Int), ((x6 : Nat) : Int)]] : List (List Int))) x12).1) 0)
  (0, [])
  (cond (Nat.beq ((ih x0 (IntKind.i64.wrap (x1 + 1)) x2 x3 x4 x5 x6 x7 x8 x9 x10 (((x11.drop 0).take x11.length) ++ ([[((x5 : Nat) : Int), ((x6 : Nat) : Int)]] : List (List Int))) x12).1) 1)
  (1, ((ih x0 (IntKind.i64.wrap (x1 + 1)) x2 x3 x4 x5 x6 x7 x8 x9 x10 (((x11.drop 0).take x11.length) ++ ([[((x5 : Nat) : Int), ((x6 : Nat) : Int)]] : List (List Int))) x12).2))
  (cond (Nat.beq ((ih x0 (IntKind.i64.wrap (x1 + 1)) x2 x3 x4 x5 x6 x7 x8 x9 x10 (((x11.drop 0).take x11.length) ++ ([[((x5 : Nat) : Int), ((x6 : Nat) : Int)]] : List (List Int))) x12).1) 2)
  (0, [])
  (3, []))))
  (3, []))
  (cond (Nat.beq (0 + (Int.toNat ((x12.getD (Int.toNat x1) []).getD 1 0)) * 2) 4)
  (cond (Nat.ble ((x11.length + 1) * 9) 140737488355328)
  (cond (Nat.beq ((ih x0 (IntKind.i64.wrap (x1 + 1)) x2 x3 x4 x5 x6 x7 x8 x9 x10 (((x11.drop 0).take x11.length) ++ ([[((x6 : Nat) : Int), ((x7 : Nat) : Int)]] : List (List Int))) x12).1) 0)
  (0, [])
  (cond (Nat.beq ((ih x0 (IntKind.i64.wrap (x1 + 1)) x2 x3 x4 x5 x6 x7 x8 x9 x10 (((x11.drop 0).take x11.length) ++ ([[((x6 : Nat) : Int), ((x7 : Nat) : Int)]] : List (List Int))) x12).1) 1)
  (1, ((ih x0 (IntKind.i64.wrap (x1 + 1)) x2 x3 x4 x5 x6 x7 x8 x9 x10 (((x11.drop 0).take x11.length) ++ ([[((x6 : Nat) : Int), ((x7 : Nat) : Int)]] : List (List Int))) x12).2))
  (cond (Nat.beq ((ih x0 (IntKind.i64.wrap (x1 + 1)) x2 x3 x4 x5 x6 x7 x8 x9 x10 (((x11.drop 0).take x11.length) ++ ([[((x6 : Nat) : Int), ((x7 : Nat) : Int)]] : List (List Int))) x12).1) 2)
  (0, [])
  (3, []))))
  (3, []))
  (cond (Nat.beq (0 + (Int.toNat ((x12.getD (Int.toNat x1) []).getD 1 0)) * 2) 5)
  (cond (Nat.ble ((x11.length + 1) * 9) 140737488355328)
  (cond (Nat.beq ((ih x0 (IntKind.i64.wrap (x1 + 1)) x2 x3 x4 x5 x6 x7 x8 x9 x10 (((x11.drop 0).take x11.length) ++ ([[((x7 : Nat) : Int), ((x8 : Nat) : Int)]] : List (List Int))) x12).1) 0)
  (0, [])
  (cond (Nat.beq ((ih x0 (IntKind.i64.wrap (x1 + 1)) x2 x3 x4 x5 x6 x7 x8 x9 x10 (((x11.drop 0).take x11.length) ++ ([[((x7 : Nat) : Int), ((x8 : Nat) : Int)]] : List (List Int))) x12).1) 1)
  (1, ((ih x0 (IntKind.i64.wrap (x1 + 1)) x2 x3 x4 x5 x6 x7 x8 x9 x10 (((x11.drop 0).take x11.length) ++ ([[((x7 : Nat) : Int), ((x8 : Nat) : Int)]] : List (List Int))) x12).2))
  (cond (Nat.beq ((ih x0 (IntKind.i64.wrap (x1 + 1)) x2 x3 x4 x5 x6 x7 x8 x9 x10 (((x11.drop 0).take x11.length) ++ ([[((x7 : Nat) : Int), ((x8 : Nat) : Int)]] : List (List Int))) x12).1) 2)
  (0, [])
  (3, []))))
  (3, []))
  (cond (Nat.beq (0 + (Int.toNat ((x12.getD (Int.toNat x1) []).getD 1 0)) * 2) 6)
  (cond (Nat.ble ((x11.length + 1) * 9) 140737488355328)
  (cond (Nat.beq ((ih x0 (IntKind.i64.wrap (x1 + 1)) x2 x3 x4 x5 x6 x7 x8 x9 x10 (((x11.drop 0).take x11.length) ++ ([[((x8 : Nat) : Int), ((x9 : Nat) : Int)]] : List (List Int))) x12).1) 0)
  (0, [])
  (cond (Nat.beq ((ih x0 (IntKind.i64.wrap (x1 + 1)) x2 x3 x4 x5 x6 x7 x8 x9 x10 (((x11.drop 0).take x11.length) ++ ([[((x8 : Nat) : Int), ((x9 : Nat) : Int)]] : List (List Int))) x12).1) 1)
  (1, ((ih x0 (IntKind.i64.wrap (x1 + 1)) x2 x3 x4 x5 x6 x7 x8 x9 x10 (((x11.drop 0).take x11.length) ++ ([[((x8 : Nat) : Int), ((x9 : Nat) : Int)]] : List (List Int))) x12).2))
  (cond (Nat.beq ((ih x0 (IntKind.i64.wrap (x1 + 1)) x2 x3 x4 x5 x6 x7 x8 x9 x10 (((x11.drop 0).take x11.length) ++ ([[((x8 : Nat) : Int), ((x9 : Nat) : Int)]] : List (List Int))) x12).1) 2)
  (0, [])
  (3, []))))
  (3, []))
  (3, []))))))))
  (3, []))
  (cond ((((x12.getD (Int.toNat x1) []).getD 0 0) : Int) == 3)
  (cond ((decide ((0 : Int) ≤ ((x12.getD (Int.toNat x1) []).getD 1 0))) && (Nat.blt (Int.toNat ((x12.getD (Int.toNat x1) []).getD 1 0)) x10.length))
  (cond (Nat.ble ((x11.length + 1) * 9) 140737488355328)
  (cond (Nat.beq ((ih x0 (IntKind.i64.wrap (x1 + 1)) x2 x3 x4 x5 x6 x7 x8 x9 x10 (((x11.drop 0).take x11.length) ++ ([[(((Int.toNat ((x10.getD (Int.toNat ((x12.getD (Int.toNat x1) []).getD 1 0)) []).getD 0 0)) : Nat) : Int), (((Int.toNat ((x10.getD (Int.toNat ((x12.getD (Int.toNat x1) []).getD 1 0)) []).getD 1 0)) : Nat) : Int)]] : List (List Int))) x12).1) 0)
  (0, [])
  (cond (Nat.beq ((ih x0 (IntKind.i64.wrap (x1 + 1)) x2 x3 x4 x5 x6 x7 x8 x9 x10 (((x11.drop 0).take x11.length) ++ ([[(((Int.toNat ((x10.getD (Int.toNat ((x12.getD (Int.toNat x1) []).getD 1 0)) []).getD 0 0)) : Nat) : Int), (((Int.toNat ((x10.getD (Int.toNat ((x12.getD (Int.toNat x1) []).getD 1 0)) []).getD 1 0)) : Nat) : Int)]] : List (List Int))) x12).1) 1)
  (1, ((ih x0 (IntKind.i64.wrap (x1 + 1)) x2 x3 x4 x5 x6 x7 x8 x9 x10 (((x11.drop 0).take x11.length) ++ ([[(((Int.toNat ((x10.getD (Int.toNat ((x12.getD (Int.toNat x1) []).getD 1 0)) []).getD 0 0)) : Nat) : Int), (((Int.toNat ((x10.getD (Int.toNat ((x12.getD (Int.toNat x1) []).getD 1 0)) []).getD 1 0)) : Nat) : Int)]] : List (List Int))) x12).2))
  (cond (Nat.beq ((ih x0 (IntKind.i64.wrap (x1 + 1)) x2 x3 x4 x5 x6 x7 x8 x9 x10 (((x11.drop 0).take x11.length) ++ ([[(((Int.toNat ((x10.getD (Int.toNat ((x12.getD (Int.toNat x1) []).getD 1 0)) []).getD 0 0)) : Nat) : Int), (((Int.toNat ((x10.getD (Int.toNat ((x12.getD (Int.toNat x1) []).getD 1 0)) []).getD 1 0)) : Nat) : Int)]] : List (List Int))) x12).1) 2)
  (0, [])
  (3, []))))
  (3, []))
  (3, []))
  (cond ((Nat.blt (Int.toNat (IntKind.i64.wrap (((x11.length : Nat) : Int) - ((r53 ((x12.getD (Int.toNat x1) []).getD 0 0)).1)))) x11.length) && (((decide ((0 : Int) ≤ (IntKind.i64.wrap (((x11.length : Nat) : Int) - ((r53 ((x12.getD (Int.toNat x1) []).getD 0 0)).1))))) && (Nat.ble (Int.toNat (IntKind.i64.wrap (((x11.length : Nat) : Int) - ((r53 ((x12.getD (Int.toNat x1) []).getD 0 0)).1)))) x11.length)) && (Nat.ble x11.length x11.length)))
  (cond ((((x12.getD (Int.toNat x1) []).getD 0 0) : Int) == 4)
  (cond (Nat.blt 0 (x11.length - (Int.toNat (IntKind.i64.wrap (((x11.length : Nat) : Int) - ((r53 ((x12.getD (Int.toNat x1) []).getD 0 0)).1))))))
  (cond (Nat.blt ((Int.toNat (IntKind.i64.wrap (((x11.length : Nat) : Int) - ((r53 ((x12.getD (Int.toNat x1) []).getD 0 0)).1)))) + 0) x11.length)
  (cond (Nat.ble ((x10.length + 1) * 9) 140737488355328)
  (cond ((Nat.blt 0 x11.length) && (Nat.ble 0 x11.length))
  (cond (Nat.beq ((ih x0 (IntKind.i64.wrap (x1 + 1)) x2 x3 x4 x5 x6 x7 x8 x9 (((x10.drop 0).take x10.length) ++ ([[(((Int.toNat ((x11.getD ((Int.toNat (IntKind.i64.wrap (((x11.length : Nat) : Int) - ((r53 ((x12.getD (Int.toNat x1) []).getD 0 0)).1)))) + 0) []).getD 0 0)) : Nat) : Int), (((Int.toNat ((x11.getD ((Int.toNat (IntKind.i64.wrap (((x11.length : Nat) : Int) - ((r53 ((x12.getD (Int.toNat x1) []).getD 0 0)).1)))) + 0) []).getD 1 0)) : Nat) : Int)]] : List (List Int))) ([] : List (List Int)) x12).1) 0)
  (1, (((x10.drop 0).take x10.length) ++ ([[(((Int.toNat ((x11.getD ((Int.toNat (IntKind.i64.wrap (((x11.length : Nat) : Int) - ((r53 ((x12.getD (Int.toNat x1) []).getD 0 0)).1)))) + 0) []).getD 0 0)) : Nat) : Int), (((Int.toNat ((x11.getD ((Int.toNat (IntKind.i64.wrap (((x11.length : Nat) : Int) - ((r53 ((x12.getD (Int.toNat x1) []).getD 0 0)).1)))) + 0) []).getD 1 0)) : Nat) : Int)]] : List (List Int))))
  (cond (Nat.beq ((ih x0 (IntKind.i64.wrap (x1 + 1)) x2 x3 x4 x5 x6 x7 x8 x9 (((x10.drop 0).take x10.length) ++ ([[(((Int.toNat ((x11.getD ((Int.toNat (IntKind.i64.wrap (((x11.length : Nat) : Int) - ((r53 ((x12.getD (Int.toNat x1) []).getD 0 0)).1)))) + 0) []).getD 0 0)) : Nat) : Int), (((Int.toNat ((x11.getD ((Int.toNat (IntKind.i64.wrap (((x11.length : Nat) : Int) - ((r53 ((x12.getD (Int.toNat x1) []).getD 0 0)).1)))) + 0) []).getD 1 0)) : Nat) : Int)]] : List (List Int))) ([] : List (List Int)) x12).1) 1)
  (1, ((ih x0 (IntKind.i64.wrap (x1 + 1)) x2 x3 x4 x5 x6 x7 x8 x9 (((x10.drop 0).take x10.length) ++ ([[(((Int.toNat ((x11.getD ((Int.toNat (IntKind.i64.wrap (((x11.length : Nat) : Int) - ((r53 ((x12.getD (Int.toNat x1) []).getD 0 0)).1)))) + 0) []).getD 0 0)) : Nat) : Int), (((Int.toNat ((x11.getD ((Int.toNat (IntKind.i64.wrap (((x11.length : Nat) : Int) - ((r53 ((x12.getD (Int.toNat x1) []).getD 0 0)).1)))) + 0) []).getD 1 0)) : Nat) : Int)]] : List (List Int))) ([] : List (List Int)) x12).2))
  (cond (Nat.beq ((ih x0 (IntKind.i64.wrap (x1 + 1)) x2 x3 x4 x5 x6 x7 x8 x9 (((x10.drop 0).take x10.length) ++ ([[(((Int.toNat ((x11.getD ((Int.toNat (IntKind.i64.wrap (((x11.length : Nat) : Int) - ((r53 ((x12.getD (Int.toNat x1) []).getD 0 0)).1)))) + 0) []).getD 0 0)) : Nat) : Int), (((Int.toNat ((x11.getD ((Int.toNat (IntKind.i64.wrap (((x11.length : Nat) : Int) - ((r53 ((x12.getD (Int.toNat x1) []).getD 0 0)).1)))) + 0) []).getD 1 0)) : Nat) : Int)]] : List (List Int))) ([] : List (List Int)) x12).1) 2)
  (1, (((x10.drop 0).take x10.length) ++ ([[(((Int.toNat ((x11.getD ((Int.toNat (IntKind.i64.wrap (((x11.length : Nat) : Int) - ((r53 ((x12.getD (Int.toNat x1) []).getD 0 0)).1)))) + 0) []).getD 0 0)) : Nat) : Int), (((Int.toNat ((x11.getD ((Int.toNat (IntKind.i64.wrap (((x11.length : Nat) : Int) - ((r53 ((x12.getD (Int.toNat x1) []).getD 0 0)).1)))) + 0) []).getD 1 0)) : Nat) : Int)]] : List (List Int))))
  (3, []))))
  (3, []))
  (3, []))
  (3, []))
  (3, []))
  (cond (Nat.beq (c895.1) 0)
  (cond ((Nat.blt 0 x11.length) && (((decide ((0 : Int) ≤ (IntKind.i64.wrap (((x11.length : Nat) : Int) - ((r53 ((x12.getD (Int.toNat x1) []).getD 0 0)).1))))) && (Nat.ble 0 (Int.toNat (IntKind.i64.wrap (((x11.length : Nat) : Int) - ((r53 ((x12.getD (Int.toNat x1) []).getD 0 0)).1)))))) && (Nat.ble (Int.toNat (IntKind.i64.wrap (((x11.length : Nat) : Int) - ((r53 ((x12.getD (Int.toNat x1) []).getD 0 0)).1)))) x11.length)))
  (cond ((Nat.ble (Int.toNat (IntKind.i64.wrap (((x11.length : Nat) : Int) - ((r53 ((x12.getD (Int.toNat x1) []).getD 0 0)).1)))) x11.length) && (Nat.ble (((Int.toNat (IntKind.i64.wrap (((x11.length : Nat) : Int) - ((r53 ((x12.getD (Int.toNat x1) []).getD 0 0)).1)))) + 1) * 9) 140737488355328))
  (cond (Nat.beq ((ih x0 (IntKind.i64.wrap (x1 + 1)) x2 x3 x4 x5 x6 x7 x8 x9 x10 (((x11.drop 0).take (Int.toNat (IntKind.i64.wrap (((x11.length : Nat) : Int) - ((r53 ((x12.getD (Int.toNat x1) []).getD 0 0)).1))))) ++ ([[(((c895.2.1) : Nat) : Int), (((c895.2.2) : Nat) : Int)]] : List (List Int))) x12).1) 0)
  (0, [])
  (cond (Nat.beq ((ih x0 (IntKind.i64.wrap (x1 + 1)) x2 x3 x4 x5 x6 x7 x8 x9 x10 (((x11.drop 0).take (Int.toNat (IntKind.i64.wrap (((x11.length : Nat) : Int) - ((r53 ((x12.getD (Int.toNat x1) []).getD 0 0)).1))))) ++ ([[(((c895.2.1) : Nat) : Int), (((c895.2.2) : Nat) : Int)]] : List (List Int))) x12).1) 1)
  (1, ((ih x0 (IntKind.i64.wrap (x1 + 1)) x2 x3 x4 x5 x6 x7 x8 x9 x10 (((x11.drop 0).take (Int.toNat (IntKind.i64.wrap (((x11.length : Nat) : Int) - ((r53 ((x12.getD (Int.toNat x1) []).getD 0 0)).1))))) ++ ([[(((c895.2.1) : Nat) : Int), (((c895.2.2) : Nat) : Int)]] : List (List Int))) x12).2))
  (cond (Nat.beq ((ih x0 (IntKind.i64.wrap (x1 + 1)) x2 x3 x4 x5 x6 x7 x8 x9 x10 (((x11.drop 0).take (Int.toNat (IntKind.i64.wrap (((x11.length : Nat) : Int) - ((r53 ((x12.getD (Int.toNat x1) []).getD 0 0)).1))))) ++ ([[(((c895.2.1) : Nat) : Int), (((c895.2.2) : Nat) : Int)]] : List (List Int))) x12).1) 2)
  (0, [])
  (3, []))))
  (3, []))
  (3, []))
  (3, [])))
  (3, [])))))
  (3, []))
  (2, [])
noncomputable def r88l0 : Nat → Int → Int → Nat → Nat → Nat → Nat → Nat → Nat → Nat → Nat → List (List Int) → List (List Int) → List (List Int) → (Nat × List (List Int))
 | 0 => fun _ _ _ _ _ _ _ _ _ _ _ _ _ => (3, [])
 | m + 1 => b88l0 (r88l0 m)
noncomputable def a88l0 (x0 x1 : Int) (x2 x3 x4 x5 x6 x7 x8 x9 : Nat) (x10 x11 x12 : List (List Int)) (p : Nat × List (List Int)) : Option (Fin' × List Value × St) := firstT ([((Nat.beq (p.1) 0), .exit 0, [wsl 1], ⟨[⟨true, (some (.cells [.float .f32 x2, .float .f32 x3, .float .f32 x4, .float .f32 x5, .float .f32 x6, .float .f32 x7, .float .f32 x8, .float .f32 x9]))⟩, ⟨true, (some (.tab [.fl .f32, .fl .f32] x10))⟩, ⟨true, none⟩, ⟨true, (some (.tab [.int .i8, .int .i16, .fl .f32] x12))⟩], 4, [1, 2]⟩), ((Nat.beq (p.1) 1), .exit 0, [wsl 4], ⟨[⟨true, (some (.cells [.float .f32 x2, .float .f32 x3, .float .f32 x4, .float .f32 x5, .float .f32 x6, .float .f32 x7, .float .f32 x8, .float .f32 x9]))⟩, ⟨true, none⟩, ⟨true, none⟩, ⟨true, (some (.tab [.int .i8, .int .i16, .fl .f32] x12))⟩, ⟨true, (some (.tab [.fl .f32, .fl .f32] (p.2)))⟩], 4, [1, 2]⟩), ((Nat.beq (p.1) 2), .exit 0, [wsl 1], ⟨[⟨true, (some (.cells [.float .f32 x2, .float .f32 x3, .float .f32 x4, .float .f32 x5, .float .f32 x6, .float .f32 x7, .float .f32 x8, .float .f32 x9]))⟩, ⟨true, (some (.tab [.fl .f32, .fl .f32] x10))⟩, ⟨true, (some (.tab [.fl .f32, .fl .f32] x11))⟩, ⟨true, (some (.tab [.int .i8, .int .i16, .fl .f32] x12))⟩], 4, [1, 2]⟩)].map fun (b, x) => (b, (x.1, frameOf 95 [9] x.2.1, x.2.2)))
noncomputable def u88l0 (x0 x1 : Int) (x2 x3 x4 x5 x6 x7 x8 x9 : Nat) (x10 x11 x12 : List (List Int)) (p : Nat × List (List Int)) : Option (Fin' × List Value × St) := alts ([((Nat.beq (p.1) 0), .exit 0, [wsl 1], ⟨[⟨true, (some (.cells [.float .f32 x2, .float .f32 x3, .float .f32 x4, .float .f32 x5, .float .f32 x6, .float .f32 x7, .float .f32 x8, .float .f32 x9]))⟩, ⟨true, (some (.tab [.fl .f32, .fl .f32] x10))⟩, ⟨true, none⟩, ⟨true, (some (.tab [.int .i8, .int .i16, .fl .f32] x12))⟩], 4, [1, 2]⟩), ((Nat.beq (p.1) 1), .exit 0, [wsl 4], ⟨[⟨true, (some (.cells [.float .f32 x2, .float .f32 x3, .float .f32 x4, .float .f32 x5, .float .f32 x6, .float .f32 x7, .float .f32 x8, .float .f32 x9]))⟩, ⟨true, none⟩, ⟨true, none⟩, ⟨true, (some (.tab [.int .i8, .int .i16, .fl .f32] x12))⟩, ⟨true, (some (.tab [.fl .f32, .fl .f32] (p.2)))⟩], 4, [1, 2]⟩), ((Nat.beq (p.1) 2), .exit 0, [wsl 1], ⟨[⟨true, (some (.cells [.float .f32 x2, .float .f32 x3, .float .f32 x4, .float .f32 x5, .float .f32 x6, .float .f32 x7, .float .f32 x8, .float .f32 x9]))⟩, ⟨true, (some (.tab [.fl .f32, .fl .f32] x10))⟩, ⟨true, (some (.tab [.fl .f32, .fl .f32] x11))⟩, ⟨true, (some (.tab [.int .i8, .int .i16, .fl .f32] x12))⟩], 4, [1, 2]⟩)].map fun (b, x) => (b, (x.1, frameOf 95 [9] x.2.1, x.2.2))) some
theorem v88l0 (x0 x1 : Int) (x2 x3 x4 x5 x6 x7 x8 x9 : Nat) (x10 x11 x12 : List (List Int)) (p : Nat × List (List Int)) : u88l0 x0 x1 x2 x3 x4 x5 x6 x7 x8 x9 x10 x11 x12 p = a88l0 x0 x1 x2 x3 x4 x5 x6 x7 x8 x9 x10 x11 x12 p := alts_first _
noncomputable def q88l0 (m : Nat) : SumK := fun vals s =>
 match vals, s.h with
 | [.func (.func f0) ⟨[]⟩ ⟨[]⟩, .func (.func f1) ⟨[]⟩ ⟨[]⟩, .pointer (some ⟨f2, f3, some f4⟩), .iface f5 .nilIface, .iface f6 .nilIface, .iface f7 .nilIface, .int .i64 x0, .int .i64 x1], [⟨true, some (.cells [.float .f32 x2, .float .f32 x3, .float .f32 x4, .float .f32 x5, .float .f32 x6, .float .f32 x7, .float .f32 x8, .float .f32 x9])⟩, ⟨true, some (.tab [.fl .f32, .fl .f32] x10)⟩, ⟨true, some (.tab [.fl .f32, .fl .f32] x11)⟩, ⟨true, some (.tab [.int .i8, .int .i16, .fl .f32] x12)⟩] => if f0 = 89 ∧ f1 = 90 ∧ f2 = 0 ∧ f3 = 0 ∧ f4 = 0 ∧ f5 = 1 ∧ f6 = 2 ∧ f7 = 3 then [((Nat.beq ((r88l0 m x0 x1 x2 x3 x4 x5 x6 x7 x8 x9 x10 x11 x12).1) 0), .exit 0, [wsl 1], ⟨[⟨true, (some (.cells [.float .f32 x2, .float .f32 x3, .float .f32 x4, .float .f32 x5, .float .f32 x6, .float .f32 x7, .float .f32 x8, .float .f32 x9]))⟩, ⟨true, (some (.tab [.fl .f32, .fl .f32] x10))⟩, ⟨true, none⟩, ⟨true, (some (.tab [.int .i8, .int .i16, .fl .f32] x12))⟩], 4, [1, 2]⟩), ((Nat.beq ((r88l0 m x0 x1 x2 x3 x4 x5 x6 x7 x8 x9 x10 x11 x12).1) 1), .exit 0, [wsl 4], ⟨[⟨true, (some (.cells [.float .f32 x2, .float .f32 x3, .float .f32 x4, .float .f32 x5, .float .f32 x6, .float .f32 x7, .float .f32 x8, .float .f32 x9]))⟩, ⟨true, none⟩, ⟨true, none⟩, ⟨true, (some (.tab [.int .i8, .int .i16, .fl .f32] x12))⟩, ⟨true, (some (.tab [.fl .f32, .fl .f32] ((r88l0 m x0 x1 x2 x3 x4 x5 x6 x7 x8 x9 x10 x11 x12).2)))⟩], 4, [1, 2]⟩), ((Nat.beq ((r88l0 m x0 x1 x2 x3 x4 x5 x6 x7 x8 x9 x10 x11 x12).1) 2), .exit 0, [wsl 1], ⟨[⟨true, (some (.cells [.float .f32 x2, .float .f32 x3, .float .f32 x4, .float .f32 x5, .float .f32 x6, .float .f32 x7, .float .f32 x8, .float .f32 x9]))⟩, ⟨true, (some (.tab [.fl .f32, .fl .f32] x10))⟩, ⟨true, (some (.tab [.fl .f32, .fl .f32] x11))⟩, ⟨true, (some (.tab [.int .i8, .int .i16, .fl .f32] x12))⟩], 4, [1, 2]⟩)] else noQ vals s
 | _, _ => noQ vals s
noncomputable def w88l0 (ih : Int → Int → Nat → Nat → Nat → Nat → Nat → Nat → Nat → Nat → List (List Int) → List (List Int) → List (List Int) → (Nat × List (List Int))) (x0 x1 : Int) (x2 x3 x4 x5 x6 x7 x8 x9 : Nat) (x10 x11 x12 : List (List Int)) : Option (Fin' × List Value × St) :=
 let c895 := (r90 ((x12.getD (Int.toNat x1) []).getD 0 0) (Int.toNat (IntKind.i64.wrap (((x11.length : Nat) : Int) - ((r53 ((x12.getD (Int.toNat x1) []).getD 0 0)).1)))) (x11.length - (Int.toNat (IntKind.i64.wrap (((x11.length : Nat) : Int) - ((r53 ((x12.getD (Int.toNat x1) []).getD 0 0)).1))))) (x11.length - (Int.toNat (IntKind.i64.wrap (((x11.length : Nat) : Int) - ((r53 ((x12.getD (Int.toNat x1) []).getD 0 0)).1))))) x11)
 (cond (decide ((x1 : Int) < x0))
 (cond ((decide ((0 : Int) ≤ x1)) && (Nat.blt (Int.toNat x1) x12.length))
  (cond (Nat.blt (Int.toNat x1) x12.length)
  (cond ((((x12.getD (Int.toNat x1) []).getD 0 0) : Int) == 1)
  (cond (Nat.ble ((x11.length + 1) * 9) 140737488355328)
  (cond (Nat.beq ((ih x0 (IntKind.i64.wrap (x1 + 1)) x2 x3 x4 x5 x6 x7 x8 x9 x10 (((x11.drop 0).take x11.length) ++ ([[(((Int.toNat ((x12.getD (Int.toNat x1) []).getD 2 0)) : Nat) : Int), (((Int.toNat ((x12.getD (Int.toNat x1) []).getD 2 0)) : Nat) : Int)]] : List (List Int))) x12).1) 0)
  (a88l0 x0 x1 x2 x3 x4 x5 x6 x7 x8 x9 x10 x11 x12 (0, []))
  (cond (Nat.beq ((ih x0 (IntKind.i64.wrap (x1 + 1)) x2 x3 x4 x5 x6 x7 x8 x9 x10 (((x11.drop 0).take x11.length) ++ ([[(((Int.toNat ((x12.getD (Int.toNat x1) []).getD 2 0)) : Nat) : Int), (((Int.toNat ((x12.getD (Int.toNat x1) []).getD 2 0)) : Nat) : Int)]] : List (List Int))) x12).1) 1)
  (a88l0 x0 x1 x2 x3 x4 x5 x6 x7 x8 x9 x10 x11 x12 (1, ((ih x0 (IntKind.i64.wrap (x1 + 1)) x2 x3 x4 x5 x6 x7 x8 x9 x10 (((x11.drop 0).take x11.length) ++ ([[(((Int.toNat ((x12.getD (Int.toNat x1) []).getD 2 0)) : Nat) : Int), (((Int.toNat ((x12.getD (Int.toNat x1) []).getD 2 0)) : Nat) : Int)]] : List (List Int))) x12).2)))
  (cond (Nat.beq ((ih x0 (IntKind.i64.wrap (x1 + 1)) x2 x3 x4 x5 x6 x7 x8 x9 x10 (((x11.drop 0).take x11.length) ++ ([[(((Int.toNat ((x12.getD (Int.toNat x1) []).getD 2 0)) : Nat) : Int), (((Int.toNat ((x12.getD (Int.toNat x1) []).getD 2 0)) : Nat) : Int)]] : List (List Int))) x12).1) 2)
  (a88l0 x0 x1 x2 x3 x4 x5 x6 x7 x8 x9 x10 x11 x12 (0, []))
  none)))
  none)
  (cond ((((x12.getD (Int.toNat x1) []).getD 0 0) : Int) == 2)
  (cond ((decide ((0 : Int) ≤ ((x12.getD (Int.toNat x1) []).getD 1 0))) && (Nat.blt (Int.toNat ((x12.getD (Int.toNat x1) []).getD 1 0)) 4))
  (cond (Nat.beq (0 + (Int.toNat ((x12.getD (Int.toNat x1) []).getD 1 0)) * 2) 0)
  (cond (Nat.ble ((x11.length + 1) * 9) 140737488355328)
  (cond (Nat.beq ((ih x0 (IntKind.i64.wrap (x1 + 1)) x2 x3 x4 x5 x6 x7 x8 x9 x10 (((x11.drop 0).take x11.length) ++ ([[((x2 : Nat) : Int), ((x3 : Nat) : Int)]] : List (List Int))) x12).1) 0)
  (a88l0 x0 x1 x2 x3 x4 x5 x6 x7 x8 x9 x10 x11 x12 (0, []))
  (cond (Nat.beq ((ih x0 (IntKind.i64.wrap (x1 + 1)) x2 x3 x4 x5 x6 x7 x8 x9 x10 (((x11.drop 0).take x11.length) ++ ([[((x2 : Nat) : Int), ((x3 : Nat) : Int)]] : List (List Int))) x12).1) 1)
  (a88l0 x0 x1 x2 x3 x4 x5 x6 x7 x8 x9 x10 x11 x12 (1, ((ih x0 (IntKind.i64.wrap (x1 + 1)) x2 x3 x4 x5 x6 x7 x8 x9 x10 (((x11.drop 0).take x11.length) ++ ([[((x2 : Nat) : Int), ((x3 : Nat) : Int)]] : List (List Int))) x12).2)))
  (cond (Nat.beq ((ih x0 (IntKind.i64.wrap (x1 + 1)) x2 x3 x4 x5 x6 x7 x8 x9 x10 (((x11.drop 0).take x11.length) ++ ([[((x2 : Nat) : Int), ((x3 : Nat) : Int)]] : List (List Int))) x12).1) 2)
  (a88l0 x0 x1 x2 x3 x4 x5 x6 x7 x8 x9 x10 x11 x12 (0, []))
  none)))
  none)
  (cond (Nat.beq (0 + (Int.toNat ((x12.getD (Int.toNat x1) []).getD 1 0)) * 2) 1)
  (cond (Nat.ble ((x11.length + 1) * 9) 140737488355328)
  (cond (Nat.beq ((ih x0 (IntKind.i64.wrap (x1 + 1)) x2 x3 x4 x5 x6 x7 x8 x9 x10 (((x11.drop 0).take x11.length) ++ ([[((x3 : Nat) : Int), ((x4 : Nat) : Int)]] : List (List Int))) x12).1) 0)
  (a88l0 x0 x1 x2 x3 x4 x5 x6 x7 x8 x9 x10 x11 x12 (0, []))
  (cond (Nat.beq ((ih x0 (IntKind.i64.wrap (x1 + 1)) x2 x3 x4 x5 x6 x7 x8 x9 x10 (((x11.drop 0).take x11.length) ++ ([[((x3 : Nat) : Int), ((x4 : Nat) : Int)]] : List (List Int))) x12).1) 1)
  (a88l0 x0 x1 x2 x3 x4 x5 x6 x7 x8 x9 x10 x11 x12 (1, ((ih x0 (IntKind.i64.wrap (x1 + 1)) x2 x3 x4 x5 x6 x7 x8 x9 x10 (((x11.drop 0).take x11.length) ++ ([[((x3 : Nat) : Int), ((x4 : Nat) : Int)]] : List (List Int))) x12).2)))
  (cond (Nat.beq ((ih x0 (IntKind.i64.wrap (x1 + 1)) x2 x3 x4 x5 x6 x7 x8 x9 x10 (((x11.drop 0).take x11.length) ++ ([[((x3 : Nat) : Int), ((x4 : Nat) : Int)]] : List (List Int))) x12).1) 2)
  (a88l0 x0 x1 x2 x3 x4 x5 x6 x7 x8 x9 x10 x11 x12 (0, []))
  none)))
  none)
  (cond (Nat.beq (0 + (Int.toNat ((x12.getD (Int.toNat x1) []).getD 1 0)) * 2) 2)
  (cond (Nat.ble ((x11.length + 1) * 9) 140737488355328)
  (cond (Nat.beq ((ih x0 (IntKind.i64.wrap (x1 + 1)) x2 x3 x4 x5 x6 x7 x8 x9 x10 (((x11.drop 0).take x11.length) ++ ([[((x4 : Nat) : Int), ((x5 : Nat) : Int)]] : List (List Int))) x12).1) 0)
  (a88l0 x0 x1 x2 x3 x4 x5 x6 x7 x8 x9 x10 x11 x12 (0, []))
  (cond (Nat.beq ((ih x0 (IntKind.i64.wrap (x1 + 1)) x2 x3 x4 x5 x6 x7 x8 x9 x10 (((x11.drop 0).take x11.length) ++ ([[((x4 : Nat) : Int), ((x5 : Nat) : Int)]] : List (List Int))) x12).1) 1)
  (a88l0 x0 x1 x2 x3 x4 x5 x6 x7 x8 x9 x10 x11 x12 (1, ((ih x0 (IntKind.i64.wrap (x1 + 1)) x2 x3 x4 x5 x6 x7 x8 x9 x10 (((x11.drop 0).take x11.length) ++ ([[((x4 : Nat) : Int), ((x5 : Nat) : Int)]] : List (List Int))) x12).2)))
  (cond (Nat.beq ((ih x0 (IntKind.i64.wrap (x1 + 1)) x2 x3 x4 x5 x6 x7 x8 x9 x10 (((x11.drop 0).take x11.length) ++ ([[((x4 : Nat) : Int), ((x5 : Nat) : Int)]] : List (List Int))) x12).1) 2)
  (a88l0 x0 x1 x2 x3 x4 x5 x6 x7 x8 x9 x10 x11 x12 (0, []))
  none)))
  none)
  (cond (Nat.beq (0 + (Int.toNat ((x12.getD (Int.toNat x1) []).getD 1 0)) * 2) 3)
  (cond (Nat.ble ((x11.length + 1) * 9) 140737488355328)
  (cond (Nat.beq ((ih x0 (IntKind.i64.wrap (x1 + 1)) x2 x3 x4 x5 x6 x7 x8 x9 x10 (((x11.drop 0).take x11.length) ++ ([[((x5 : Nat) : Int), ((x6 : Nat) : Int)]] : List (List Int))) x12).1) 0)
  (a88l0 x0 x1 x2 x3 x4 x5 x6 x7 x8 x9 x10 x11 x12 (0, []))
  (cond (Nat.beq ((ih x0 (IntKind.i64.wrap (x1 + 1)) x2 x3 x4 x5 x6 x7 x8 x9 x10 (((x11.drop 0).take x11.length) ++ ([[((x5 : Nat) : Int), ((x6 : Nat) : Int)]] : List (List Int))) x12).1) 1)
  (a88l0 x0 x1 x2 x3 x4 x5 x6 x7 x8 x9 x10 x11 x12 (1, ((ih x0 (IntKind.i64.wrap (x1 + 1)) x2 x3 x4 x5 x6 x7 x8 x9 x10 (((x11.drop 0).take x11.length) ++ ([[((x5 : Nat) : Int), ((x6 : Nat) : Int)]] : List (List Int))) x12).2)))
  (cond (Nat.beq ((ih x0 (IntKind.i64.wrap (x1 + 1)) x2 x3 x4 x5 x6 x7 x8 x9 x10 (((x11.drop 0).take x11.length) ++ ([[((x5 : Nat) : Int), ((x6 : Nat) : Int)]] : List (List Int))) x12).1) 2)
  (a88l0 x0 x1 x2 x3 x4 x5 x6 x7 x8 x9 x10 x11 x12 (0, []))
  none)))
  none)
  (cond (Nat.beq (0 + (Int.toNat ((x12.getD (Int.toNat x1) []).getD 1 0)) * 2) 4)
  (cond (Nat.ble ((x11.length + 1) * 9) 140737488355328)
  (cond (Nat.beq ((ih x0 (IntKind.i64.wrap (x1 + 1)) x2 x3 x4 x5 x6 x7 x8 x9 x10 (((x11.drop 0).take x11.length) ++ ([[((x6 : Nat) : Int), ((x7 : Nat) : Int)]] : List (List Int))) x12).1) 0)
  (a88l0 x0 x1 x2 x3 x4 x5 x6 x7 x8 x9 x10 x11 x12 (0, []))
  (cond (Nat.beq ((ih x0 (IntKind.i64.wrap (x1 + 1)) x2 x3 x4 x5 x6 x7 x8 x9 x10 (((x11.drop 0).take x11.length) ++ ([[((x6 : Nat) : Int), ((x7 : Nat) : Int)]] : List (List Int))) x12).1) 1)
  (a88l0 x0 x1 x2 x3 x4 x5 x6 x7 x8 x9 x10 x11 x12 (1, ((ih x0 (IntKind.i64.wrap (x1 + 1)) x2 x3 x4 x5 x6 x7 x8 x9 x10 (((x11.drop 0).take x11.length) ++ ([[((x6 : Nat) : Int), ((x7 : Nat) : Int)]] : List (List Int))) x12).2)))
  (cond (Nat.beq ((ih x0 (IntKind.i64.wrap (x1 + 1)) x2 x3 x4 x5 x6 x7 x8 x9 x10 (((x11.drop 0).take x11.length) ++ ([[((x6 : Nat) : Int), ((x7 : Nat) : Int)]] : List (List Int))) x12).1) 2)
  (a88l0 x0 x1 x2 x3 x4 x5 x6 x7 x8 x9 x10 x11 x12 (0, []))
  none)))
  none)
  (cond (Nat.beq (0 + (Int.toNat ((x12.getD (Int.toNat x1) []).getD 1 0)) * 2) 5)
  (cond (Nat.ble ((x11.length + 1) * 9) 140737488355328)
  (cond (Nat.beq ((ih x0 (IntKind.i64.wrap (x1 + 1)) x2 x3 x4 x5 x6 x7 x8 x9 x10 (((x11.drop 0).take x11.length) ++ ([[((x7 : Nat) : Int), ((x8 : Nat) : Int)]] : List (List Int))) x12).1) 0)
  (a88l0 x0 x1 x2 x3 x4 x5 x6 x7 x8 x9 x10 x11 x12 (0, []))
  (cond (Nat.beq ((ih x0 (IntKind.i64.wrap (x1 + 1)) x2 x3 x4 x5 x6 x7 x8 x9 x10 (((x11.drop 0).take x11.length) ++ ([[((x7 : Nat) : Int), ((x8 : Nat) : Int)]] : List (List Int))) x12).1) 1)
  (a88l0 x0 x1 x2 x3 x4 x5 x6 x7 x8 x9 x10 x11 x12 (1, ((ih x0 (IntKind.i64.wrap (x1 + 1)) x2 x3 x4 x5 x6 x7 x8 x9 x10 (((x11.drop 0).take x11.length) ++ ([[((x7 : Nat) : Int), ((x8 : Nat) : Int)]] : List (List Int))) x12).2)))
  (cond (Nat.beq ((ih x0 (IntKind.i64.wrap (x1 + 1)) x2 x3 x4 x5 x6 x7 x8 x9 x10 (((x11.drop 0).take x11.length) ++ ([[((x7 : Nat) : Int), ((x8 : Nat) : Int)]] : List (List Int))) x12).1) 2)
  (a88l0 x0 x1 x2 x3 x4 x5 x6 x7 x8 x9 x10 x11 x12 (0, []))
  none)))
  none)
  (cond (Nat.beq (0 + (Int.toNat ((x12.getD (Int.toNat x1) []).getD 1 0)) * 2) 6)
  (cond (Nat.ble ((x11.length + 1) * 9) 140737488355328)
  (cond (Nat.beq ((ih x0 (IntKind.i64.wrap (x1 + 1)) x2 x3 x4 x5 x6 x7 x8 x9 x10 (((x11.drop 0).take x11.length) ++ ([[((x8 : Nat) : Int), ((x9 : Nat) : Int)]] : List (List Int))) x12).1) 0)
  (a88l0 x0 x1 x2 x3 x4 x5 x6 x7 x8 x9 x10 x11 x12 (0, []))
  (cond (Nat.beq ((ih x0 (IntKind.i64.wrap (x1 + 1)) x2 x3 x4 x5 x6 x7 x8 x9 x10 (((x11.drop 0).take x11.length) ++ ([[((x8 : Nat) : Int), ((x9 : Nat) : Int)]] : List (List Int))) x12).1) 1)
  (a88l0 x0 x1 x2 x3 x4 x5 x6 x7 x8 x9 x10 x11 x12 (1, ((ih x0 (IntKind.i64.wrap (x1 + 1)) x2 x3 x4 x5 x6 x7 x8 x9 x10 (((x11.drop 0).take x11.length) ++ ([[((x8 : Nat) : Int), ((x9 : Nat) : Int)]] : List (List Int))) x12).2)))
  (cond (Nat.beq ((ih x0 (IntKind.i64.wrap (x1 + 1)) x2 x3 x4 x5 x6 x7 x8 x9 x10 (((x11.drop 0).take x11.length) ++ ([[((x8 : Nat) : Int), ((x9 : Nat) : Int)]] : List (List Int))) x12).1) 2)
  (a88l0 x0 x1 x2 x3 x4 x5 x6 x7 x8 x9 x10 x11 x12 (0, []))
  none)))
  none)
  none)))))))
  none)
  (cond ((((x12.getD (Int.toNat x1) []).getD 0 0) : Int) == 3)
  (cond ((decide ((0 : Int) ≤ ((x12.getD (Int.toNat x1) []).getD 1 0))) && (Nat.blt (Int.toNat ((x12.getD (Int.toNat x1) []).getD 1 0)) x10.length))
  (cond (Nat.blt (Int.toNat ((x12.getD (Int.toNat x1) []).getD 1 0)) x10.length)
  (cond (Nat.ble ((x11.length + 1) * 9) 140737488355328)
  (cond (Nat.beq ((ih x0 (IntKind.i64.wrap (x1 + 1)) x2 x3 x4 x5 x6 x7 x8 x9 x10 (((x11.drop 0).take x11.length) ++ ([[(((Int.toNat ((x10.getD (Int.toNat ((x12.getD (Int.toNat x1) []).getD 1 0)) []).getD 0 0)) : Nat) : Int), (((Int.toNat ((x10.getD (Int.toNat ((x12.getD (Int.toNat x1) []).getD 1 0)) []).getD 1 0)) : Nat) : Int)]] : List (List Int))) x12).1) 0)
  (a88l0 x0 x1 x2 x3 x4 x5 x6 x7 x8 x9 x10 x11 x12 (0, []))
  (cond (Nat.beq ((ih x0 (IntKind.i64.wrap (x1 + 1)) x2 x3 x4 x5 x6 x7 x8 x9 x10 (((x11.drop 0).take x11.length) ++ ([[(((Int.toNat ((x10.getD (Int.toNat ((x12.getD (Int.toNat x1) []).getD 1 0)) []).getD 0 0)) : Nat) : Int), (((Int.toNat ((x10.getD (Int.toNat ((x12.getD (Int.toNat x1) []).getD 1 0)) []).getD 1 0)) : Nat) : Int)]] : List (List Int))) x12).1) 1)
  (a88l0 x0 x1 x2 x3 x4 x5 x6 x7 x8 x9 x10 x11 x12 (1, ((ih x0 (IntKind.i64.wrap (x1 + 1)) x2 x3 x4 x5 x6 x7 x8 x9 x10 (((x11.drop 0).take x11.length) ++ ([[(((Int.toNat ((x10.getD (Int.toNat ((x12.getD (Int.toNat x1) []).getD 1 0)) []).getD 0 0)) : Nat) : Int), (((Int.toNat ((x10.getD (Int.toNat ((x12.getD (Int.toNat x1) []).getD 1 0)) []).getD 1 0)) : Nat) : Int)]] : List (List Int))) x12).2)))
  (cond (Nat.beq ((ih x0 (IntKind.i64.wrap (x1 + 1)) x2 x3 x4 x5 x6 x7 x8 x9 x10 (((x11.drop 0).take x11.length) ++ ([[(((Int.toNat ((x10.getD (Int.toNat ((x12.getD (Int.toNat x1) []).getD 1 0)) []).getD 0 0)) : Nat) : Int), (((Int.toNat ((x10.getD (Int.toNat ((x12.getD (Int.toNat x1) []).getD 1 0)) []).getD 1 0)) : Nat) : Int)]] : List (List Int))) x12).1) 2)
  (a88l0 x0 x1 x2 x3 x4 x5 x6 x7 x8 x9 x10 x11 x12 (0, []))
  none)))
  none)
  none)
  none)
  (cond ((Nat.blt (Int.toNat (IntKind.i64.wrap (((x11.length : Nat) : Int) - ((r53 ((x12.getD (Int.toNat x1) []).getD 0 0)).1)))) x11.length) && (((decide ((0 : Int) ≤ (IntKind.i64.wrap (((x11.length : Nat) : Int) - ((r53 ((x12.getD (Int.toNat x1) []).getD 0 0)).1))))) && (Nat.ble (Int.toNat (IntKind.i64.wrap (((x11.length : Nat) : Int) - ((r53 ((x12.getD (Int.toNat x1) []).getD 0 0)).1)))) x11.length)) && (Nat.ble x11.length x11.length)))
  (cond ((((x12.getD (Int.toNat x1) []).getD 0 0) : Int) == 4)
  (cond (Nat.blt 0 (x11.length - (Int.toNat (IntKind.i64.wrap (((x11.length : Nat) : Int) - ((r53 ((x12.getD (Int.toNat x1) []).getD 0 0)).1))))))
  (cond (Nat.blt ((Int.toNat (IntKind.i64.wrap (((x11.length : Nat) : Int) - ((r53 ((x12.getD (Int.toNat x1) []).getD 0 0)).1)))) + 0) x11.length)
  (cond (Nat.ble ((x10.length + 1) * 9) 140737488355328)
  (cond ((Nat.blt 0 x11.length) && (Nat.ble 0 x11.length))
  (cond (Nat.ble 0 x11.length)
  (cond (Nat.beq ((ih x0 (IntKind.i64.wrap (x1 + 1)) x2 x3 x4 x5 x6 x7 x8 x9 (((x10.drop 0).take x10.length) ++ ([[(((Int.toNat ((x11.getD ((Int.toNat (IntKind.i64.wrap (((x11.length : Nat) : Int) - ((r53 ((x12.getD (Int.toNat x1) []).getD 0 0)).1)))) + 0) []).getD 0 0)) : Nat) : Int), (((Int.toNat ((x11.getD ((Int.toNat (IntKind.i64.wrap (((x11.length : Nat) : Int) - ((r53 ((x12.getD (Int.toNat x1) []).getD 0 0)).1)))) + 0) []).getD 1 0)) : Nat) : Int)]] : List (List Int))) ([] : List (List Int)) x12).1) 0)
  (a88l0 x0 x1 x2 x3 x4 x5 x6 x7 x8 x9 x10 x11 x12 (1, (((x10.drop 0).take x10.length) ++ ([[(((Int.toNat ((x11.getD ((Int.toNat (IntKind.i64.wrap (((x11.length : Nat) : Int) - ((r53 ((x12.getD (Int.toNat x1) []).getD 0 0)).1)))) + 0) []).getD 0 0)) : Nat) : Int), (((Int.toNat ((x11.getD ((Int.toNat (IntKind.i64.wrap (((x11.length : Nat) : Int) - ((r53 ((x12.getD (Int.toNat x1) []).getD 0 0)).1)))) + 0) []).getD 1 0)) : Nat) : Int)]] : List (List Int)))))
  (cond (Nat.beq ((ih x0 (IntKind.i64.wrap (x1 + 1)) x2 x3 x4 x5 x6 x7 x8 x9 (((x10.drop 0).take x10.length) ++ ([[(((Int.toNat ((x11.getD ((Int.toNat (IntKind.i64.wrap (((x11.length : Nat) : Int) - ((r53 ((x12.getD (Int.toNat x1) []).getD 0 0)).1)))) + 0) []).getD 0 0)) : Nat) : Int), (((Int.toNat ((x11.getD ((Int.toNat (IntKind.i64.wrap (((x11.length : Nat) : Int) - ((r53 ((x12.getD (Int.toNat x1) []).getD 0 0)).1)))) + 0) []).getD 1 0)) : Nat) : Int)]] : List (List Int))) ([] : List (List Int)) x12).1) 1)
  (a88l0 x0 x1 x2 x3 x4 x5 x6 x7 x8 x9 x10 x11 x12 (1, ((ih x0 (IntKind.i64.wrap (x1 + 1)) x2 x3 x4 x5 x6 x7 x8 x9 (((x10.drop 0).take x10.length) ++ ([[(((Int.toNat ((x11.getD ((Int.toNat (IntKind.i64.wrap (((x11.length : Nat) : Int) - ((r53 ((x12.getD (Int.toNat x1) []).getD 0 0)).1)))) + 0) []).getD 0 0)) : Nat) : Int), (((Int.toNat ((x11.getD ((Int.toNat (IntKind.i64.wrap (((x11.length : Nat) : Int) - ((r53 ((x12.getD (Int.toNat x1) []).getD 0 0)).1)))) + 0) []).getD 1 0)) : Nat) : Int)]] : List (List Int))) ([] : List (List Int)) x12).2)))
  (cond (Nat.beq ((ih x0 (IntKind.i64.wrap (x1 + 1)) x2 x3 x4 x5 x6 x7 x8 x9 (((x10.drop 0).take x10.length) ++ ([[(((Int.toNat ((x11.getD ((Int.toNat (IntKind.i64.wrap (((x11.length : Nat) : Int) - ((r53 ((x12.getD (Int.toNat x1) []).getD 0 0)).1)))) + 0) []).getD 0 0)) : Nat) : Int), (((Int.toNat ((x11.getD ((Int.toNat (IntKind.i64.wrap (((x11.length : Nat) : Int) - ((r53 ((x12.getD (Int.toNat x1) []).getD 0 0)).1)))) + 0) []).getD 1 0)) : Nat) : Int)]] : List (List Int))) ([] : List (List Int)) x12).1) 2)
  (a88l0 x0 x1 x2 x3 x4 x5 x6 x7 x8 x9 x10 x11 x12 (1, (((x10.drop 0).take x10.length) ++ ([[(((Int.toNat ((x11.getD ((Int.toNat (IntKind.i64.wrap (((x11.length : Nat) : Int) - ((r53 ((x12.getD (Int.toNat x1) []).getD 0 0)).1)))) + 0) []).getD 0 0)) : Nat) : Int), (((Int.toNat ((x11.getD ((Int.toNat (IntKind.i64.wrap (((x11.length : Nat) : Int) - ((r53 ((x12.getD (Int.toNat x1) []).getD 0 0)).1)))) + 0) []).getD 1 0)) : Nat) : Int)]] : List (List Int)))))
  none)))
  none)
  none)
  none)
  none)
  none)
  (cond (Nat.beq (c895.1) 0)
  (cond ((Nat.blt 0 x11.length) && (((decide ((0 : Int) ≤ (IntKind.i64.wrap (((x11.length : Nat) : Int) - ((r53 ((x12.getD (Int.toNat x1) []).getD 0 0)).1))))) && (Nat.ble 0 (Int.toNat (IntKind.i64.wrap (((x11.length : Nat) : Int) - ((r53 ((x12.getD (Int.toNat x1) []).getD 0 0)).1)))))) && (Nat.ble (Int.toNat (IntKind.i64.wrap (((x11.length : Nat) : Int) - ((r53 ((x12.getD (Int.toNat x1) []).getD 0 0)).1)))) x11.length)))
  (cond ((Nat.ble (Int.toNat (IntKind.i64.wrap (((x11.length : Nat) : Int) - ((r53 ((x12.getD (Int.toNat x1) []).getD 0 0)).1)))) x11.length) && (Nat.ble (((Int.toNat (IntKind.i64.wrap (((x11.length : Nat) : Int) - ((r53 ((x12.getD (Int.toNat x1) []).getD 0 0)).1)))) + 1) * 9) 140737488355328))
  (cond (Nat.beq ((ih x0 (IntKind.i64.wrap (x1 + 1)) x2 x3 x4 x5 x6 x7 x8 x9 x10 (((x11.drop 0).take (Int.toNat (IntKind.i64.wrap (((x11.length : Nat) : Int) - ((r53 ((x12.getD (Int.toNat x1) []).getD 0 0)).1))))) ++ ([[(((c895.2.1) : Nat) : Int), (((c895.2.2) : Nat) : Int)]] : List (List Int))) x12).1) 0)
  (a88l0 x0 x1 x2 x3 x4 x5 x6 x7 x8 x9 x10 x11 x12 (0, []))
  (cond (Nat.beq ((ih x0 (IntKind.i64.wrap (x1 + 1)) x2 x3 x4 x5 x6 x7 x8 x9 x10 (((x11.drop 0).take (Int.toNat (IntKind.i64.wrap (((x11.length : Nat) : Int) - ((r53 ((x12.getD (Int.toNat x1) []).getD 0 0)).1))))) ++ ([[(((c895.2.1) : Nat) : Int), (((c895.2.2) : Nat) : Int)]] : List (List Int))) x12).1) 1)
  (a88l0 x0 x1 x2 x3 x4 x5 x6 x7 x8 x9 x10 x11 x12 (1, ((ih x0 (IntKind.i64.wrap (x1 + 1)) x2 x3 x4 x5 x6 x7 x8 x9 x10 (((x11.drop 0).take (Int.toNat (IntKind.i64.wrap (((x11.length : Nat) : Int) - ((r53 ((x12.getD (Int.toNat x1) []).getD 0 0)).1))))) ++ ([[(((c895.2.1) : Nat) : Int), (((c895.2.2) : Nat) : Int)]] : List (List Int))) x12).2)))
  (cond (Nat.beq ((ih x0 (IntKind.i64.wrap (x1 + 1)) x2 x3 x4 x5 x6 x7 x8 x9 x10 (((x11.drop 0).take (Int.toNat (IntKind.i64.wrap (((x11.length : Nat) : Int) - ((r53 ((x12.getD (Int.toNat x1) []).getD 0 0)).1))))) ++ ([[(((c895.2.1) : Nat) : Int), (((c895.2.2) : Nat) : Int)]] : List (List Int))) x12).1) 2)
  (a88l0 x0 x1 x2 x3 x4 x5 x6 x7 x8 x9 x10 x11 x12 (0, []))
  none)))
  none)
  none)
  none))
  none))))
  none)
  none)
 (a88l0 x0 x1 x2 x3 x4 x5 x6 x7 x8 x9 x10 x11 x12 (2, [])))
set_option maxRecDepth 100000 in
set_option maxHeartbeats 4000000 in
theorem e88l0 (m : Nat) (x0 x1 : Int) (x2 x3 x4 x5 x6 x7 x8 x9 : Nat) (x10 x11 x12 : List (List Int)) : evC Try.prog ext T68 noL 200 (loopN Try.f88 0) (loopTail ([2, 3, 5, 9, 10, 20, 21, 22], [10]) [9] [1, 2] (sumK 95 [2, 3, 5, 9, 10, 20, 21, 22] [9] (q88l0 m))) (frameOf 95 [2, 3, 5, 9, 10, 20, 21, 22] [.func (.func 89) #[] #[], .func (.func 90) #[] #[], .pointer (some ⟨0, 0, some 0⟩), wsl 1, wsl 2, wsl 3, .int .i64 x0, .int .i64 x1]) ⟨[⟨true, (some (.cells [.float .f32 x2, .float .f32 x3, .float .f32 x4, .float .f32 x5, .float .f32 x6, .float .f32 x7, .float .f32 x8, .float .f32 x9]))⟩, ⟨true, (some (.tab [.fl .f32, .fl .f32] x10))⟩, ⟨true, (some (.tab [.fl .f32, .fl .f32] x11))⟩, ⟨true, (some (.tab [.int .i8, .int .i16, .fl .f32] x12))⟩], 4, []⟩ = firstT ([((Nat.beq ((r88l0 (m + 1) x0 x1 x2 x3 x4 x5 x6 x7 x8 x9 x10 x11 x12).1) 0), .exit 0, [wsl 1], ⟨[⟨true, (some (.cells [.float .f32 x2, .float .f32 x3, .float .f32 x4, .float .f32 x5, .float .f32 x6, .float .f32 x7, .float .f32 x8, .float .f32 x9]))⟩, ⟨true, (some (.tab [.fl .f32, .fl .f32] x10))⟩, ⟨true, none⟩, ⟨true, (some (.tab [.int .i8, .int .i16, .fl .f32] x12))⟩], 4, [1, 2]⟩), ((Nat.beq ((r88l0 (m + 1) x0 x1 x2 x3 x4 x5 x6 x7 x8 x9 x10 x11 x12).1) 1), .exit 0, [wsl 4], ⟨[⟨true, (some (.cells [.float .f32 x2, .float .f32 x3, .float .f32 x4, .float .f32 x5, .float .f32 x6, .float .f32 x7, .float .f32 x8, .float .f32 x9]))⟩, ⟨true, none⟩, ⟨true, none⟩, ⟨true, (some (.tab [.int .i8, .int .i16, .fl .f32] x12))⟩, ⟨true, (some (.tab [.fl .f32, .fl .f32] ((r88l0 (m + 1) x0 x1 x2 x3 x4 x5 x6 x7 x8 x9 x10 x11 x12).2)))⟩], 4, [1, 2]⟩), ((Nat.beq ((r88l0 (m + 1) x0 x1 x2 x3 x4 x5 x6 x7 x8 x9 x10 x11 x12).1) 2), .exit 0, [wsl 1], ⟨[⟨true, (some (.cells [.float .f32 x2, .float .f32 x3, .float .f32 x4, .float .f32 x5, .float .f32 x6, .float .f32 x7, .float .f32 x8, .float .f32 x9]))⟩, ⟨true, (some (.tab [.fl .f32, .fl .f32] x10))⟩, ⟨true, (some (.tab [.fl .f32, .fl .f32] x11))⟩, ⟨true, (some (.tab [.int .i8, .int .i16, .fl .f32] x12))⟩], 4, [1, 2]⟩)].map fun (b, x) => (b, (x.1, frameOf 95 [9] x.2.1, x.2.2))) :=
 (show evC Try.prog ext T68 noL 200 (loopN Try.f88 0) (loopTail ([2, 3, 5, 9, 10, 20, 21, 22], [10]) [9] [1, 2] (sumK 95 [2, 3, 5, 9, 10, 20, 21, 22] [9] (q88l0 m))) (frameOf 95 [2, 3, 5, 9, 10, 20, 21, 22] [.func (.func 89) #[] #[], .func (.func 90) #[] #[], .pointer (some ⟨0, 0, some 0⟩), wsl 1, wsl 2, wsl 3, .int .i64 x0, .int .i64 x1]) ⟨[⟨true, (some (.cells [.float .f32 x2, .float .f32 x3, .float .f32 x4, .float .f32 x5, .float .f32 x6, .float .f32 x7, .float .f32 x8, .float .f32 x9]))⟩, ⟨true, (some (.tab [.fl .f32, .fl .f32] x10))⟩, ⟨true, (some (.tab [.fl .f32, .fl .f32] x11))⟩, ⟨true, (some (.tab [.int .i8, .int .i16, .fl .f32] x12))⟩], 4, []⟩ = w88l0 (r88l0 m) x0 x1 x2 x3 x4 x5 x6 x7 x8 x9 x10 x11 x12 from by kernel_rfl).trans
 (show w88l0 (r88l0 m) x0 x1 x2 x3 x4 x5 x6 x7 x8 x9 x10 x11 x12 = a88l0 x0 x1 x2 x3 x4 x5 x6 x7 x8 x9 x10 x11 x12 (r88l0 (m + 1) x0 x1 x2 x3 x4 x5 x6 x7 x8 x9 x10 x11 x12) from by unfold w88l0; show _ = a88l0 x0 x1 x2 x3 x4 x5 x6 x7 x8 x9 x10 x11 x12 (b88l0 (r88l0 m) x0 x1 x2 x3 x4 x5 x6 x7 x8 x9 x10 x11 x12); unfold b88l0; exact (cond_both (a88l0 x0 x1 x2 x3 x4 x5 x6 x7 x8 x9 x10 x11 x12) _ (fun h0 => (cond_both (a88l0 x0 x1 x2 x3 x4 x5 x6 x7 x8 x9 x10 x11 x12) _ (fun h1 => (cond_t (ev_and2 h1) (cond_both (a88l0 x0 x1 x2 x3 x4 x5 x6 x7 x8 x9 x10 x11 x12) _ (fun h2 => (cond_app (a88l0 x0 x1 x2 x3 x4 x5 x6 x7 x8 x9 x10 x11 x12) _ (cond_app (a88l0 x0 x1 x2 x3 x4 x5 x6 x7 x8 x9 x10 x11 x12) _ rfl (cond_app (a88l0 x0 x1 x2 x3 x4 x5 x6 x7 x8 x9 x10 x11 x12) _ rfl (cond_app (a88l0 x0 x1 x2 x3 x4 x5 x6 x7 x8 x9 x10 x11 x12) _ rfl rfl))) rfl)) (fun h2 => (cond_both (a88l0 x0 x1 x2 x3 x4 x5 x6 x7 x8 x9 x10 x11 x12) _ (fun h3 => (cond_app (a88l0 x0 x1 x2 x3 x4 x5 x6 x7 x8 x9 x10 x11 x12) _ (cond_app (a88l0 x0 x1 x2 x3 x4 x5 x6 x7 x8 x9 x10 x11 x12) _ (cond_app (a88l0 x0 x1 x2 x3 x4 x5 x6 x7 x8 x9 x10 x11 x12) _ (cond_app (a88l0 x0 x1 x2 x3 x4 x5 x6 x7 x8 x9 x10 x11 x12) _ rfl (cond_app (a88l0 x0 x1 x2 x3 x4 x5 x6 x7 x8 x9 x10 x11 x12) _ rfl (cond_app (a88l0 x0 x1 x2 x3 x4 x5 x6 x7 x8 x9 x10 x11 x12) _ rfl rfl))) rfl) (cond_app (a88l0 x0 x1 x2 x3 x4 x5 x6 x7 x8 x9 x10 x11 x12) _ (cond_app (a88l0 x0 x1 x2 x3 x4 x5 x6 x7 x8 x9 x10 x11 x12) _ (cond_app (a88l0 x0 x1 x2 x3 x4 x5 x6 x7 x8 x9 x10 x11 x12) _ rfl (cond_app (a88l0 x0 x1 x2 x3 x4 x5 x6 x7 x8 x9 x10 x11 x12) _ rfl (cond_app (a88l0 x0 x1 x2 x3 x4 x5 x6 x7 x8 x9 x10 x11 x12) _ rfl rfl))) rfl) (cond_app (a88l0 x0 x1 x2 x3 x4 x5 x6 x7 x8 x9 x10 x11 x12) _ (cond_app (a88l0 x0 x1 x2 x3 x4 x5 x6 x7 x8 x9 x10 x11 x12) _ (cond_app (a88l0 x0 x1 x2 x3 x4 x5 x6 x7 x8 x9 x10 x11 x12) _ rfl (cond_app (a88l0 x0 x1 x2 x3 x4 x5 x6 x7 x8 x9 x10 x11 x12) _ rfl (cond_app (a88l0 x0 x1 x2 x3 x4 x5 x6 x7 x8 x9 x10 x11 x12) _ rfl rfl))) rfl) (cond_app (a88l0 x0 x1 x2 x3 x4 x5 x6 x7 x8 x9 x10 x11 x12) _ (cond_app (a88l0 x0 x1 x2 x3 x4 x5 x6 x7 x8 x9 x10 x11 x12) _ (cond_app (a88l0 x0 x1 x2 x3 x4 x5 x6 x7 x8 x9 x10 x11 x12) _ rfl (cond_app (a88l0 x0 x1 x2 x3 x4 x5 x6 x7 x8 x9 x10 x11 x12) _ rfl (cond_app (a88l0 x0 x1 x2 x3 x4 x5 x6 x7 x8 x9 x10 x11 x12) _ rfl rfl))) rfl) (cond_app (a88l0 x0 x1 x2 x3 x4 x5 x6 x7 x8 x9 x10 x11 x12) _ (cond_app (a88l0 x0 x1 x2 x3 x4 x5 x6 x7 x8 x9 x10 x11 x12) _ (cond_app (a88l0 x0 x1 x2 x3 x4 x5 x6 x7 x8 x9 x10 x11 x12) _ rfl (cond_app (a88l0 x0 x1 x2 x3 x4 x5 x6 x7 x8 x9 x10 x11 x12) _ rfl (cond_app (a88l0 x0 x1 x2 x3 x4 x5 x6 x7 x8 x9 x10 x11 x12) _ rfl rfl))) rfl) (cond_app (a88l0 x0 x1 x2 x3 x4 x5 x6 x7 x8 x9 x10 x11 x12) _ (cond_app (a88l0 x0 x1 x2 x3 x4 x5 x6 x7 x8 x9 x10 x11 x12) _ (cond_app (a88l0 x0 x1 x2 x3 x4 x5 x6 x7 x8 x9 x10 x11 x12) _ rfl (cond_app (a88l0 x0 x1 x2 x3 x4 x5 x6 x7 x8 x9 x10 x11 x12) _ rfl (cond_app (a88l0 x0 x1 x2 x3 x4 x5 x6 x7 x8 x9 x10 x11 x12) _ rfl rfl))) rfl) (cond_app (a88l0 x0 x1 x2 x3 x4 x5 x6 x7 x8 x9 x10 x11 x12) _ (cond_app (a88l0 x0 x1 x2 x3 x4 x5 x6 x7 x8 x9 x10 x11 x12) _ (cond_app (a88l0 x0 x1 x2 x3 x4 x5 x6 x7 x8 x9 x10 x11 x12) _ rfl (cond_app (a88l0 x0 x1 x2 x3 x4 x5 x6 x7 x8 x9 x10 x11 x12) _ rfl (cond_app (a88l0 x0 x1 x2 x3 x4 x5 x6 x7 x8 x9 x10 x11 x12) _ rfl rfl))) rfl) rfl))))))) rfl)) (fun h3 => (cond_both (a88l0 x0 x1 x2 x3 x4 x5 x6 x7 x8 x9 x10 x11 x12) _ (fun h4 => (cond_both (a88l0 x0 x1 x2 x3 x4 x5 x6 x7 x8 x9 x10 x11 x12) _ (fun h5 => (cond_t (ev_and2 h5) (cond_app (a88l0 x0 x1 x2 x3 x4 x5 x6 x7 x8 x9 x10 x11 x12) _ (cond_app (a88l0 x0 x1 x2 x3 x4 x5 x6 x7 x8 x9 x10 x11 x12) _ rfl (cond_app (a88l0 x0 x1 x2 x3 x4 x5 x6 x7 x8 x9 x10 x11 x12) _ rfl (cond_app (a88l0 x0 x1 x2 x3 x4 x5 x6 x7 x8 x9 x10 x11 x12) _ rfl rfl))) rfl))) (fun h5 => rfl))) (fun h4 => (cond_both (a88l0 x0 x1 x2 x3 x4 x5 x6 x7 x8 x9 x10 x11 x12) _ (fun h5 => (cond_both (a88l0 x0 x1 x2 x3 x4 x5 x6 x7 x8 x9 x10 x11 x12) _ (fun h6 => (cond_both (a88l0 x0 x1 x2 x3 x4 x5 x6 x7 x8 x9 x10 x11 x12) _ (fun h7 => (cond_both (a88l0 x0 x1 x2 x3 x4 x5 x6 x7 x8 x9 x10 x11 x12) _ (fun h8 => (cond_both (a88l0 x0 x1 x2 x3 x4 x5 x6 x7 x8 x9 x10 x11 x12) _ (fun h9 => (cond_both (a88l0 x0 x1 x2 x3 x4 x5 x6 x7 x8 x9 x10 x11 x12) _ (fun h10 => (cond_t (ev_and2 h10) (cond_app (a88l0 x0 x1 x2 x3 x4 x5 x6 x7 x8 x9 x10 x11 x12) _ rfl (cond_app (a88l0 x0 x1 x2 x3 x4 x5 x6 x7 x8 x9 x10 x11 x12) _ rfl (cond_app (a88l0 x0 x1 x2 x3 x4 x5 x6 x7 x8 x9 x10 x11 x12) _ rfl rfl))))) (fun h10 => rfl))) (fun h9 => rfl))) (fun h8 => rfl))) (fun h7 => rfl))) (fun h6 => (cond_app (a88l0 x0 x1 x2 x3 x4 x5 x6 x7 x8 x9 x10 x11 x12) _ (cond_app (a88l0 x0 x1 x2 x3 x4 x5 x6 x7 x8 x9 x10 x11 x12) _ (cond_app (a88l0 x0 x1 x2 x3 x4 x5 x6 x7 x8 x9 x10 x11 x12) _ (cond_app (a88l0 x0 x1 x2 x3 x4 x5 x6 x7 x8 x9 x10 x11 x12) _ rfl (cond_app (a88l0 x0 x1 x2 x3 x4 x5 x6 x7 x8 x9 x10 x11 x12) _ rfl (cond_app (a88l0 x0 x1 x2 x3 x4 x5 x6 x7 x8 x9 x10 x11 x12) _ rfl rfl))) rfl) rfl) rfl)))) (fun h5 => rfl)))))))))) (fun h1 => rfl))) (fun h0 => rfl)))
set_option maxRecDepth 100000 in
set_option maxHeartbeats 4000000 in
theorem qm88l0 : ∀ m, SumKOk Try.prog (loopN Try.f88 0) 95 [2, 3, 5, 9, 10, 20, 21, 22] [9] (q88l0 m) := by
  intro m
  induction m with
  | zero =>
    intro vals s x h1 h2 h3
    unfold q88l0 at h3; split at h3
    · rename_i h; split at h3
      · rename_i hc; obtain ⟨rfl, rfl, rfl, rfl, rfl, rfl, rfl, rfl⟩ := hc; exact absurd h3 (by simp [r88l0, firstT, Nat.beq])
      · exact noQ_ok _ _ _ h1 h2 h3
    · exact noQ_ok _ _ _ h1 h2 h3
  | succ m ih =>
    intro vals s x h1 h2 h3
    unfold q88l0 at h3; split at h3
    · rename_i h; split at h3
      · rename_i hc; obtain ⟨rfl, rfl, rfl, rfl, rfl, rfl, rfl, rfl⟩ := hc; exact sum_step ok68 extOk mixed ((lfOkF_no _ _).inner (by kernel_rfl)) ih h1 h2 h (e88l0 m _ _ _ _ _ _ _ _ _ _ _ _ _) rfl h3
      · exact noQ_ok _ _ _ h1 h2 h3
    · exact noQ_ok _ _ _ h1 h2 h3
noncomputable def Q88l0 : SumK := fun vals s => q88l0 (fuelOf vals s.h) vals s
theorem qok88l0 : SumKOk Try.prog (loopN Try.f88 0) 95 [2, 3, 5, 9, 10, 20, 21, 22] [9] Q88l0 := fuel_ok qm88l0 fuelOf
noncomputable def L88_1 : LoopT := addL noL 4 ([2, 3, 5, 9, 10, 20, 21, 22], [10]) (sumK 95 [2, 3, 5, 9, 10, 20, 21, 22] [9] Q88l0)
theorem lok88_1 : LfOkF Try.prog L88_1 Try.f88 := lfOkF_add (lfOkF_no _ _) qok88l0 (by kernel_rfl) (by kernel_rfl) (by kernel_rfl)

/-- impl.runOn[impl.Span] -/
noncomputable def r88 (x0 x1 x2 x3 x4 x5 x6 x7 : Nat) (x8 : List ByteArray) (x9 : List (List Int)) : Nat × List (List Int) :=
 let c896 := (r88l0 (1000 + x9.length + 0 + 0) ((x9.length : Nat) : Int) 0 x0 x1 x2 x3 x4 x5 x6 x7 ([] : List (List Int)) ([] : List (List Int)) x9)
 cond (Nat.beq (c896.1) 0)
  (0, ([] : List (List Int)))
  (cond (Nat.beq (c896.1) 1)
  (0, (c896.2))
  (cond (Nat.beq (c896.1) 2)
  (0, ([] : List (List Int)))
  (1, [])))
noncomputable def a88 (x0 x1 x2 x3 x4 x5 x6 x7 : Nat) (x8 : List ByteArray) (x9 : List (List Int)) (p : Nat × List (List Int)) : Res := firstT [((Nat.beq (p.1) 0), wsl 2, ⟨[⟨true, (some (.strs x8))⟩, ⟨true, (some (.tab [.int .i8, .int .i16, .fl .f32] x9))⟩, ⟨true, (some (.tab [.fl .f32, .fl .f32] (p.2)))⟩], 2, []⟩)]
noncomputable def w88 (x0 x1 x2 x3 x4 x5 x6 x7 : Nat) (x8 : List ByteArray) (x9 : List (List Int)) : Res :=
 let c896 := (r88l0 (1000 + x9.length + 0 + 0) ((x9.length : Nat) : Int) 0 x0 x1 x2 x3 x4 x5 x6 x7 ([] : List (List Int)) ([] : List (List Int)) x9)
 (cond (Nat.beq (c896.1) 0)
 (a88 x0 x1 x2 x3 x4 x5 x6 x7 x8 x9 (0, ([] : List (List Int))))
 (cond (Nat.beq (c896.1) 1)
  (a88 x0 x1 x2 x3 x4 x5 x6 x7 x8 x9 (0, (c896.2)))
  (cond (Nat.beq (c896.1) 2)
  (a88 x0 x1 x2 x3 x4 x5 x6 x7 x8 x9 (0, ([] : List (List Int))))
  none)))
set_option maxRecDepth 100000 in
set_option maxHeartbeats 4000000 in
theorem e88 (x0 x1 x2 x3 x4 x5 x6 x7 : Nat) (x8 : List ByteArray) (x9 : List (List Int)) : evFn Try.prog ext T68 L88_1 200 Try.f88 [.agg #[wsl 0, wsl 1], .agg #[.float .f32 x0, .float .f32 x1, .float .f32 x2, .float .f32 x3, .float .f32 x4, .float .f32 x5, .float .f32 x6, .float .f32 x7], .func (.func 89) #[] #[], .func (.func 90) #[] #[]] ⟨[⟨true, (some (.strs x8))⟩, ⟨true, (some (.tab [.int .i8, .int .i16, .fl .f32] x9))⟩], 2, []⟩ = firstT [((Nat.beq ((r88 x0 x1 x2 x3 x4 x5 x6 x7 x8 x9).1) 0), wsl 2, ⟨[⟨true, (some (.strs x8))⟩, ⟨true, (some (.tab [.int .i8, .int .i16, .fl .f32] x9))⟩, ⟨true, (some (.tab [.fl .f32, .fl .f32] ((r88 x0 x1 x2 x3 x4 x5 x6 x7 x8 x9).2)))⟩], 2, []⟩)] :=
 (show evFn Try.prog ext T68 L88_1 200 Try.f88 [.agg #[wsl 0, wsl 1], .agg #[.float .f32 x0, .float .f32 x1, .float .f32 x2, .float .f32 x3, .float .f32 x4, .float .f32 x5, .float .f32 x6, .float .f32 x7], .func (.func 89) #[] #[], .func (.func 90) #[] #[]] ⟨[⟨true, (some (.strs x8))⟩, ⟨true, (some (.tab [.int .i8, .int .i16, .fl .f32] x9))⟩], 2, []⟩ = w88 x0 x1 x2 x3 x4 x5 x6 x7 x8 x9 from by kernel_rfl).trans
 (show w88 x0 x1 x2 x3 x4 x5 x6 x7 x8 x9 = a88 x0 x1 x2 x3 x4 x5 x6 x7 x8 x9 (r88 x0 x1 x2 x3 x4 x5 x6 x7 x8 x9) from by unfold w88 r88; exact (cond_app (a88 x0 x1 x2 x3 x4 x5 x6 x7 x8 x9) _ rfl (cond_app (a88 x0 x1 x2 x3 x4 x5 x6 x7 x8 x9) _ rfl (cond_app (a88 x0 x1 x2 x3 x4 x5 x6 x7 x8 x9) _ rfl rfl))))
noncomputable def s88 (args : List Value) (s : St) : List (Bool × Value × St) :=
 match args, s.h with
 | [.agg ⟨[.iface f0 .nilIface, .iface f1 .nilIface]⟩, .agg ⟨[.float .f32 x0, .float .f32 x1, .float .f32 x2, .float .f32 x3, .float .f32 x4, .float .f32 x5, .float .f32 x6, .float .f32 x7]⟩, .func (.func f2) ⟨[]⟩ ⟨[]⟩, .func (.func f3) ⟨[]⟩ ⟨[]⟩], [⟨true, some (.strs x8)⟩, ⟨true, some (.tab [.int .i8, .int .i16, .fl .f32] x9)⟩] => if f0 = 0 ∧ f1 = 1 ∧ f2 = 89 ∧ f3 = 90 then [((Nat.beq ((r88 x0 x1 x2 x3 x4 x5 x6 x7 x8 x9).1) 0), wsl 2, ⟨[⟨true, (some (.strs x8))⟩, ⟨true, (some (.tab [.int .i8, .int .i16, .fl .f32] x9))⟩, ⟨true, (some (.tab [.fl .f32, .fl .f32] ((r88 x0 x1 x2 x3 x4 x5 x6 x7 x8 x9).2)))⟩], 2, []⟩)] else T68 88 args s
 | _, _ => T68 88 args s
noncomputable def T69 : CallF := addF T68 88 s88
set_option maxRecDepth 100000 in
set_option maxHeartbeats 4000000 in
theorem ok69 : CfOk Try.prog T69 := by
  refine cfOk_add ok68 fun args s r s' h1 h2 h3 => ?_
  unfold s88 at h3; split at h3
  · rename_i h; split at h3
    · rename_i hc; obtain ⟨rfl, rfl, rfl, rfl⟩ := hc; exact callOk ok68 Try.func88 h1 h2 h lok88_1.body (e88 _ _ _ _ _ _ _ _ _ _) rfl h3
    · exact ok68 _ _ _ _ _ h1 h2 h3
  · exact ok68 _ _ _ _ _ h1 h2 h3

/-- impl.prove -/
noncomputable def r66 (x0 x1 x2 x3 x4 x5 x6 x7 : Nat) (x8 : List ByteArray) (x9 : List (List Int)) : Nat × List (List Int) :=
 cond (Nat.beq ((r88 x0 x1 x2 x3 x4 x5 x6 x7 x8 x9).1) 0)
  (0, ((r88 x0 x1 x2 x3 x4 x5 x6 x7 x8 x9).2))
  (1, [])
noncomputable def a66 (x0 x1 x2 x3 x4 x5 x6 x7 : Nat) (x8 : List ByteArray) (x9 : List (List Int)) (p : Nat × List (List Int)) : Res := firstT [((Nat.beq (p.1) 0), wsl 2, ⟨[⟨true, (some (.strs x8))⟩, ⟨true, (some (.tab [.int .i8, .int .i16, .fl .f32] x9))⟩, ⟨true, (some (.tab [.fl .f32, .fl .f32] (p.2)))⟩], 2, []⟩)]
noncomputable def w66 (x0 x1 x2 x3 x4 x5 x6 x7 : Nat) (x8 : List ByteArray) (x9 : List (List Int)) : Res :=
 (cond (Nat.beq ((r88 x0 x1 x2 x3 x4 x5 x6 x7 x8 x9).1) 0)
 (a66 x0 x1 x2 x3 x4 x5 x6 x7 x8 x9 (0, ((r88 x0 x1 x2 x3 x4 x5 x6 x7 x8 x9).2)))
 none)
set_option maxRecDepth 100000 in
set_option maxHeartbeats 4000000 in
theorem e66 (x0 x1 x2 x3 x4 x5 x6 x7 : Nat) (x8 : List ByteArray) (x9 : List (List Int)) : evFn Try.prog ext T69 noL 200 Try.f66 [.agg #[wsl 0, wsl 1], .agg #[.float .f32 x0, .float .f32 x1, .float .f32 x2, .float .f32 x3, .float .f32 x4, .float .f32 x5, .float .f32 x6, .float .f32 x7]] ⟨[⟨true, (some (.strs x8))⟩, ⟨true, (some (.tab [.int .i8, .int .i16, .fl .f32] x9))⟩], 2, []⟩ = firstT [((Nat.beq ((r66 x0 x1 x2 x3 x4 x5 x6 x7 x8 x9).1) 0), wsl 2, ⟨[⟨true, (some (.strs x8))⟩, ⟨true, (some (.tab [.int .i8, .int .i16, .fl .f32] x9))⟩, ⟨true, (some (.tab [.fl .f32, .fl .f32] ((r66 x0 x1 x2 x3 x4 x5 x6 x7 x8 x9).2)))⟩], 2, []⟩)] :=
 (show evFn Try.prog ext T69 noL 200 Try.f66 [.agg #[wsl 0, wsl 1], .agg #[.float .f32 x0, .float .f32 x1, .float .f32 x2, .float .f32 x3, .float .f32 x4, .float .f32 x5, .float .f32 x6, .float .f32 x7]] ⟨[⟨true, (some (.strs x8))⟩, ⟨true, (some (.tab [.int .i8, .int .i16, .fl .f32] x9))⟩], 2, []⟩ = w66 x0 x1 x2 x3 x4 x5 x6 x7 x8 x9 from by kernel_rfl).trans
 (show w66 x0 x1 x2 x3 x4 x5 x6 x7 x8 x9 = a66 x0 x1 x2 x3 x4 x5 x6 x7 x8 x9 (r66 x0 x1 x2 x3 x4 x5 x6 x7 x8 x9) from by unfold w66 r66; exact (cond_app (a66 x0 x1 x2 x3 x4 x5 x6 x7 x8 x9) _ rfl rfl))
noncomputable def s66 (args : List Value) (s : St) : List (Bool × Value × St) :=
 match args, s.h with
 | [.agg ⟨[.iface f0 .nilIface, .iface f1 .nilIface]⟩, .agg ⟨[.float .f32 x0, .float .f32 x1, .float .f32 x2, .float .f32 x3, .float .f32 x4, .float .f32 x5, .float .f32 x6, .float .f32 x7]⟩], [⟨true, some (.strs x8)⟩, ⟨true, some (.tab [.int .i8, .int .i16, .fl .f32] x9)⟩] => if f0 = 0 ∧ f1 = 1 then [((Nat.beq ((r66 x0 x1 x2 x3 x4 x5 x6 x7 x8 x9).1) 0), wsl 2, ⟨[⟨true, (some (.strs x8))⟩, ⟨true, (some (.tab [.int .i8, .int .i16, .fl .f32] x9))⟩, ⟨true, (some (.tab [.fl .f32, .fl .f32] ((r66 x0 x1 x2 x3 x4 x5 x6 x7 x8 x9).2)))⟩], 2, []⟩)] else T69 66 args s
 | _, _ => T69 66 args s
noncomputable def T70 : CallF := addF T69 66 s66
set_option maxRecDepth 100000 in
set_option maxHeartbeats 4000000 in
theorem ok70 : CfOk Try.prog T70 := by
  refine cfOk_add ok69 fun args s r s' h1 h2 h3 => ?_
  unfold s66 at h3; split at h3
  · rename_i h; split at h3
    · rename_i hc; obtain ⟨rfl, rfl⟩ := hc; exact callOk ok69 Try.func66 h1 h2 h (lfOkF_no _ _).body (e66 _ _ _ _ _ _ _ _ _ _) rfl h3
    · exact ok69 _ _ _ _ _ h1 h2 h3
  · exact ok69 _ _ _ _ _ h1 h2 h3

/-- impl.within -/
noncomputable def r65 (x0 x1 x2 x3 : Nat) : Bool :=
 cond (fgt .f32 x0 x2 || feq .f32 x0 x2)
  ((flt .f32 x1 x3 || feq .f32 x1 x3))
  (false)
noncomputable def a65 (x0 x1 x2 x3 : Nat) (p : Bool) : Res := firstT [(true, .bool p, st0)]
noncomputable def w65 (x0 x1 x2 x3 : Nat) : Res :=
 (cond (fgt .f32 x0 x2 || feq .f32 x0 x2)
 (a65 x0 x1 x2 x3 ((flt .f32 x1 x3 || feq .f32 x1 x3)))
 (a65 x0 x1 x2 x3 (false)))
set_option maxRecDepth 100000 in
set_option maxHeartbeats 4000000 in
theorem e65 (x0 x1 x2 x3 : Nat) : evFn Try.prog ext T70 noL 200 Try.f65 [.agg #[.float .f32 x0, .float .f32 x1], .agg #[.float .f32 x2, .float .f32 x3]] st0 = firstT [(true, .bool (r65 x0 x1 x2 x3), st0)] :=
 (show evFn Try.prog ext T70 noL 200 Try.f65 [.agg #[.float .f32 x0, .float .f32 x1], .agg #[.float .f32 x2, .float .f32 x3]] st0 = w65 x0 x1 x2 x3 from by kernel_rfl).trans
 (show w65 x0 x1 x2 x3 = a65 x0 x1 x2 x3 (r65 x0 x1 x2 x3) from by unfold w65 r65; exact (cond_app (a65 x0 x1 x2 x3) _ rfl rfl))
noncomputable def s65 (args : List Value) (s : St) : List (Bool × Value × St) :=
 match args, s.h with
 | [.agg ⟨[.float .f32 x0, .float .f32 x1]⟩, .agg ⟨[.float .f32 x2, .float .f32 x3]⟩], [] => [(true, .bool (r65 x0 x1 x2 x3), st0)]
 | _, _ => T70 65 args s
noncomputable def T71 : CallF := addF T70 65 s65
set_option maxRecDepth 100000 in
set_option maxHeartbeats 4000000 in
theorem ok71 : CfOk Try.prog T71 := by
  refine cfOk_add ok70 fun args s r s' h1 h2 h3 => ?_
  unfold s65 at h3; split at h3
  · rename_i h; exact callOk ok70 Try.func65 h1 h2 h (lfOkF_no _ _).body (e65 _ _ _ _) rfl h3
  · exact ok70 _ _ _ _ _ h1 h2 h3
end Go.Proofs.Ytfclciebpnnieaa
