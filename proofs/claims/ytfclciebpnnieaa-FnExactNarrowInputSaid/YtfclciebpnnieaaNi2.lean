/- What the functions that the statements reach answer, part 2. -/
import Derived.Test.YtfclciebpnnieaaNi1
namespace Go.Proofs.Ytfclciebpnnieaa
open Go.Ab
set_option maxHeartbeats 4000000
set_option maxRecDepth 100000

/-- spec.NarrowInput, loop 0: one round -/
noncomputable def b36l0 (ih : Int → Int → Int → Int → Nat → Nat → Nat → Nat → Nat → Nat → Nat → Nat → Nat → Nat → Nat → Nat → Nat → Nat → List ByteArray → List (List Int) → Nat) (x0 x1 x2 x3 : Int) (x4 x5 x6 x7 x8 x9 x10 x11 x12 x13 x14 x15 x16 x17 : Nat) (x18 : List ByteArray) (x19 : List (List Int)) : Nat :=
 cond (decide ((x3 : Int) < x1))
  (cond (!(r70 ((r69 x16 x17 x3 x1).1)))
  (0)
  (cond (!(r70 ((r69 x16 x17 x3 x1).2)))
  (0)
  (cond (!(r71 ((r69 x16 x17 x3 x1).1) ((r69 x16 x17 x3 x1).2)))
  (0)
  (ih x0 x1 x2 (IntKind.i64.wrap (x3 + 1)) x4 x5 x6 x7 x8 x9 x10 x11 x12 x13 x14 x15 x16 x17 x18 x19))))
  (1)
noncomputable def r36l0 : Nat → Int → Int → Int → Int → Nat → Nat → Nat → Nat → Nat → Nat → Nat → Nat → Nat → Nat → Nat → Nat → Nat → Nat → List ByteArray → List (List Int) → Nat
 | 0 => fun _ _ _ _ _ _ _ _ _ _ _ _ _ _ _ _ _ _ _ _ => (2)
 | m + 1 => b36l0 (r36l0 m)
noncomputable def a36l0 (x0 x1 x2 x3 : Int) (x4 x5 x6 x7 x8 x9 x10 x11 x12 x13 x14 x15 x16 x17 : Nat) (x18 : List ByteArray) (x19 : List (List Int)) (p : Nat) : Option (Fin' × List Value × St) := firstT ([((Nat.beq p 0), .ret, [.int .i64 x0, .int .i64 x1, .pointer (some ⟨0, 0, some 0⟩), .pointer (some ⟨1, 0, some 0⟩), .pointer (some ⟨2, 0, some 0⟩), .pointer (some ⟨3, 0, some 0⟩), .int .i64 4, .int .i64 x2, .pointer (some ⟨4, 0, some 0⟩)], ⟨[⟨true, (some (.cells [wsl 5, wsl 6]))⟩, ⟨true, (some (.cells [.float .f32 x4, .float .f32 x5, .float .f32 x6, .float .f32 x7, .float .f32 x8, .float .f32 x9, .float .f32 x10, .float .f32 x11]))⟩, ⟨true, (some (.cells [.float .f32 x12, .float .f32 x13]))⟩, ⟨true, (some (.cells [.float .f32 0, .float .f32 0]))⟩, ⟨true, (some (.cells [.float .f32 x16, .float .f32 x17]))⟩, ⟨true, (some (.strs x18))⟩, ⟨true, (some (.tab [.int .i8, .int .i16, .fl .f32] x19))⟩], 7, [3]⟩), ((Nat.beq p 1), .exit 0, [.int .i64 x0, .int .i64 x1, .pointer (some ⟨0, 0, some 0⟩), .pointer (some ⟨1, 0, some 0⟩), .pointer (some ⟨2, 0, some 0⟩), .pointer (some ⟨3, 0, some 0⟩), anyV, .int .i64 x2, .pointer (some ⟨4, 0, some 0⟩)], ⟨[⟨true, (some (.cells [wsl 5, wsl 6]))⟩, ⟨true, (some (.cells [.float .f32 x4, .float .f32 x5, .float .f32 x6, .float .f32 x7, .float .f32 x8, .float .f32 x9, .float .f32 x10, .float .f32 x11]))⟩, ⟨true, (some (.cells [.float .f32 x12, .float .f32 x13]))⟩, ⟨true, (some (.cells [.float .f32 x14, .float .f32 x15]))⟩, ⟨true, (some (.cells [.float .f32 x16, .float .f32 x17]))⟩, ⟨true, (some (.strs x18))⟩, ⟨true, (some (.tab [.int .i8, .int .i16, .fl .f32] x19))⟩], 7, [3]⟩)].map fun (b, x) => (b, (x.1, frameOf 117 [2, 5, 6, 7, 10, 12, 13, 15, 16] x.2.1, x.2.2)))
noncomputable def u36l0 (x0 x1 x2 x3 : Int) (x4 x5 x6 x7 x8 x9 x10 x11 x12 x13 x14 x15 x16 x17 : Nat) (x18 : List ByteArray) (x19 : List (List Int)) (p : Nat) : Option (Fin' × List Value × St) := alts ([((Nat.beq p 0), .ret, [.int .i64 x0, .int .i64 x1, .pointer (some ⟨0, 0, some 0⟩), .pointer (some ⟨1, 0, some 0⟩), .pointer (some ⟨2, 0, some 0⟩), .pointer (some ⟨3, 0, some 0⟩), .int .i64 4, .int .i64 x2, .pointer (some ⟨4, 0, some 0⟩)], ⟨[⟨true, (some (.cells [wsl 5, wsl 6]))⟩, ⟨true, (some (.cells [.float .f32 x4, .float .f32 x5, .float .f32 x6, .float .f32 x7, .float .f32 x8, .float .f32 x9, .float .f32 x10, .float .f32 x11]))⟩, ⟨true, (some (.cells [.float .f32 x12, .float .f32 x13]))⟩, ⟨true, (some (.cells [.float .f32 0, .float .f32 0]))⟩, ⟨true, (some (.cells [.float .f32 x16, .float .f32 x17]))⟩, ⟨true, (some (.strs x18))⟩, ⟨true, (some (.tab [.int .i8, .int .i16, .fl .f32] x19))⟩], 7, [3]⟩), ((Nat.beq p 1), .exit 0, [.int .i64 x0, .int .i64 x1, .pointer (some ⟨0, 0, some 0⟩), .pointer (some ⟨1, 0, some 0⟩), .pointer (some ⟨2, 0, some 0⟩), .pointer (some ⟨3, 0, some 0⟩), anyV, .int .i64 x2, .pointer (some ⟨4, 0, some 0⟩)], ⟨[⟨true, (some (.cells [wsl 5, wsl 6]))⟩, ⟨true, (some (.cells [.float .f32 x4, .float .f32 x5, .float .f32 x6, .float .f32 x7, .float .f32 x8, .float .f32 x9, .float .f32 x10, .float .f32 x11]))⟩, ⟨true, (some (.cells [.float .f32 x12, .float .f32 x13]))⟩, ⟨true, (some (.cells [.float .f32 x14, .float .f32 x15]))⟩, ⟨true, (some (.cells [.float .f32 x16, .float .f32 x17]))⟩, ⟨true, (some (.strs x18))⟩, ⟨true, (some (.tab [.int .i8, .int .i16, .fl .f32] x19))⟩], 7, [3]⟩)].map fun (b, x) => (b, (x.1, frameOf 117 [2, 5, 6, 7, 10, 12, 13, 15, 16] x.2.1, x.2.2))) some
theorem v36l0 (x0 x1 x2 x3 : Int) (x4 x5 x6 x7 x8 x9 x10 x11 x12 x13 x14 x15 x16 x17 : Nat) (x18 : List ByteArray) (x19 : List (List Int)) (p : Nat) : u36l0 x0 x1 x2 x3 x4 x5 x6 x7 x8 x9 x10 x11 x12 x13 x14 x15 x16 x17 x18 x19 p = a36l0 x0 x1 x2 x3 x4 x5 x6 x7 x8 x9 x10 x11 x12 x13 x14 x15 x16 x17 x18 x19 p := alts_first _
noncomputable def q36l0 (m : Nat) : SumK := fun vals s =>
 match vals, s.h with
 | [.int .i64 x0, .int .i64 x1, .pointer (some ⟨f0, f1, some f2⟩), .pointer (some ⟨f3, f4, some f5⟩), .pointer (some ⟨f6, f7, some f8⟩), .pointer (some ⟨f9, f10, some f11⟩), .int .i64 x2, .pointer (some ⟨f12, f13, some f14⟩), .int .i64 x3], [⟨true, some (.cells [.iface f15 .nilIface, .iface f16 .nilIface])⟩, ⟨true, some (.cells [.float .f32 x4, .float .f32 x5, .float .f32 x6, .float .f32 x7, .float .f32 x8, .float .f32 x9, .float .f32 x10, .float .f32 x11])⟩, ⟨true, some (.cells [.float .f32 x12, .float .f32 x13])⟩, ⟨true, some (.cells [.float .f32 x14, .float .f32 x15])⟩, ⟨true, some (.cells [.float .f32 x16, .float .f32 x17])⟩, ⟨true, some (.strs x18)⟩, ⟨true, some (.tab [.int .i8, .int .i16, .fl .f32] x19)⟩] => if f0 = 0 ∧ f1 = 0 ∧ f2 = 0 ∧ f3 = 1 ∧ f4 = 0 ∧ f5 = 0 ∧ f6 = 2 ∧ f7 = 0 ∧ f8 = 0 ∧ f9 = 3 ∧ f10 = 0 ∧ f11 = 0 ∧ f12 = 4 ∧ f13 = 0 ∧ f14 = 0 ∧ f15 = 5 ∧ f16 = 6 then [((Nat.beq (r36l0 m x0 x1 x2 x3 x4 x5 x6 x7 x8 x9 x10 x11 x12 x13 x14 x15 x16 x17 x18 x19) 0), .ret, [.int .i64 x0, .int .i64 x1, .pointer (some ⟨0, 0, some 0⟩), .pointer (some ⟨1, 0, some 0⟩), .pointer (some ⟨2, 0, some 0⟩), .pointer (some ⟨3, 0, some 0⟩), .int .i64 4, .int .i64 x2, .pointer (some ⟨4, 0, some 0⟩)], ⟨[⟨true, (some (.cells [wsl 5, wsl 6]))⟩, ⟨true, (some (.cells [.float .f32 x4, .float .f32 x5, .float .f32 x6, .float .f32 x7, .float .f32 x8, .float .f32 x9, .float .f32 x10, .float .f32 x11]))⟩, ⟨true, (some (.cells [.float .f32 x12, .float .f32 x13]))⟩, ⟨true, (some (.cells [.float .f32 0, .float .f32 0]))⟩, ⟨true, (some (.cells [.float .f32 x16, .float .f32 x17]))⟩, ⟨true, (some (.strs x18))⟩, ⟨true, (some (.tab [.int .i8, .int .i16, .fl .f32] x19))⟩], 7, [3]⟩), ((Nat.beq (r36l0 m x0 x1 x2 x3 x4 x5 x6 x7 x8 x9 x10 x11 x12 x13 x14 x15 x16 x17 x18 x19) 1), .exit 0, [.int .i64 x0, .int .i64 x1, .pointer (some ⟨0, 0, some 0⟩), .pointer (some ⟨1, 0, some 0⟩), .pointer (some ⟨2, 0, some 0⟩), .pointer (some ⟨3, 0, some 0⟩), anyV, .int .i64 x2, .pointer (some ⟨4, 0, some 0⟩)], ⟨[⟨true, (some (.cells [wsl 5, wsl 6]))⟩, ⟨true, (some (.cells [.float .f32 x4, .float .f32 x5, .float .f32 x6, .float .f32 x7, .float .f32 x8, .float .f32 x9, .float .f32 x10, .float .f32 x11]))⟩, ⟨true, (some (.cells [.float .f32 x12, .float .f32 x13]))⟩, ⟨true, (some (.cells [.float .f32 x14, .float .f32 x15]))⟩, ⟨true, (some (.cells [.float .f32 x16, .float .f32 x17]))⟩, ⟨true, (some (.strs x18))⟩, ⟨true, (some (.tab [.int .i8, .int .i16, .fl .f32] x19))⟩], 7, [3]⟩)] else noQ vals s
 | _, _ => noQ vals s
noncomputable def w36l0 (ih : Int → Int → Int → Int → Nat → Nat → Nat → Nat → Nat → Nat → Nat → Nat → Nat → Nat → Nat → Nat → Nat → Nat → List ByteArray → List (List Int) → Nat) (x0 x1 x2 x3 : Int) (x4 x5 x6 x7 x8 x9 x10 x11 x12 x13 x14 x15 x16 x17 : Nat) (x18 : List ByteArray) (x19 : List (List Int)) : Option (Fin' × List Value × St) :=
 (cond (decide ((x3 : Int) < x1))
 (cond (!(r70 ((r69 x16 x17 x3 x1).1)))
  (a36l0 x0 x1 x2 x3 x4 x5 x6 x7 x8 x9 x10 x11 x12 x13 x14 x15 x16 x17 x18 x19 (0))
  (cond (!(r70 ((r69 x16 x17 x3 x1).2)))
  (a36l0 x0 x1 x2 x3 x4 x5 x6 x7 x8 x9 x10 x11 x12 x13 x14 x15 x16 x17 x18 x19 (0))
  (cond (!(r71 ((r69 x16 x17 x3 x1).1) ((r69 x16 x17 x3 x1).2)))
  (a36l0 x0 x1 x2 x3 x4 x5 x6 x7 x8 x9 x10 x11 x12 x13 x14 x15 x16 x17 x18 x19 (0))
  (u36l0 x0 x1 x2 x3 x4 x5 x6 x7 x8 x9 x10 x11 x12 x13 x14 x15 x16 x17 x18 x19 (ih x0 x1 x2 (IntKind.i64.wrap (x3 + 1)) x4 x5 x6 x7 x8 x9 x10 x11 x12 x13 x14 x15 x16 x17 x18 x19)))))
 (a36l0 x0 x1 x2 x3 x4 x5 x6 x7 x8 x9 x10 x11 x12 x13 x14 x15 x16 x17 x18 x19 (1)))
set_option maxRecDepth 100000 in
set_option maxHeartbeats 4000000 in
theorem e36l0 (m : Nat) (x0 x1 x2 x3 : Int) (x4 x5 x6 x7 x8 x9 x10 x11 x12 x13 x14 x15 x16 x17 : Nat) (x18 : List ByteArray) (x19 : List (List Int)) : evC Try.prog ext T22 noL 200 (loopN Try.f36 0) (loopTail ([2, 5, 6, 7, 10, 12, 15, 16, 17], []) [2, 5, 6, 7, 10, 12, 13, 15, 16] [3] (sumK 117 [2, 5, 6, 7, 10, 12, 15, 16, 17] [2, 5, 6, 7, 10, 12, 13, 15, 16] (q36l0 m))) (frameOf 117 [2, 5, 6, 7, 10, 12, 15, 16, 17] [.int .i64 x0, .int .i64 x1, .pointer (some ⟨0, 0, some 0⟩), .pointer (some ⟨1, 0, some 0⟩), .pointer (some ⟨2, 0, some 0⟩), .pointer (some ⟨3, 0, some 0⟩), .int .i64 x2, .pointer (some ⟨4, 0, some 0⟩), .int .i64 x3]) ⟨[⟨true, (some (.cells [wsl 5, wsl 6]))⟩, ⟨true, (some (.cells [.float .f32 x4, .float .f32 x5, .float .f32 x6, .float .f32 x7, .float .f32 x8, .float .f32 x9, .float .f32 x10, .float .f32 x11]))⟩, ⟨true, (some (.cells [.float .f32 x12, .float .f32 x13]))⟩, ⟨true, (some (.cells [.float .f32 x14, .float .f32 x15]))⟩, ⟨true, (some (.cells [.float .f32 x16, .float .f32 x17]))⟩, ⟨true, (some (.strs x18))⟩, ⟨true, (some (.tab [.int .i8, .int .i16, .fl .f32] x19))⟩], 7, []⟩ = firstT ([((Nat.beq (r36l0 (m + 1) x0 x1 x2 x3 x4 x5 x6 x7 x8 x9 x10 x11 x12 x13 x14 x15 x16 x17 x18 x19) 0), .ret, [.int .i64 x0, .int .i64 x1, .pointer (some ⟨0, 0, some 0⟩), .pointer (some ⟨1, 0, some 0⟩), .pointer (some ⟨2, 0, some 0⟩), .pointer (some ⟨3, 0, some 0⟩), .int .i64 4, .int .i64 x2, .pointer (some ⟨4, 0, some 0⟩)], ⟨[⟨true, (some (.cells [wsl 5, wsl 6]))⟩, ⟨true, (some (.cells [.float .f32 x4, .float .f32 x5, .float .f32 x6, .float .f32 x7, .float .f32 x8, .float .f32 x9, .float .f32 x10, .float .f32 x11]))⟩, ⟨true, (some (.cells [.float .f32 x12, .float .f32 x13]))⟩, ⟨true, (some (.cells [.float .f32 0, .float .f32 0]))⟩, ⟨true, (some (.cells [.float .f32 x16, .float .f32 x17]))⟩, ⟨true, (some (.strs x18))⟩, ⟨true, (some (.tab [.int .i8, .int .i16, .fl .f32] x19))⟩], 7, [3]⟩), ((Nat.beq (r36l0 (m + 1) x0 x1 x2 x3 x4 x5 x6 x7 x8 x9 x10 x11 x12 x13 x14 x15 x16 x17 x18 x19) 1), .exit 0, [.int .i64 x0, .int .i64 x1, .pointer (some ⟨0, 0, some 0⟩), .pointer (some ⟨1, 0, some 0⟩), .pointer (some ⟨2, 0, some 0⟩), .pointer (some ⟨3, 0, some 0⟩), anyV, .int .i64 x2, .pointer (some ⟨4, 0, some 0⟩)], ⟨[⟨true, (some (.cells [wsl 5, wsl 6]))⟩, ⟨true, (some (.cells [.float .f32 x4, .float .f32 x5, .float .f32 x6, .float .f32 x7, .float .f32 x8, .float .f32 x9, .float .f32 x10, .float .f32 x11]))⟩, ⟨true, (some (.cells [.float .f32 x12, .float .f32 x13]))⟩, ⟨true, (some (.cells [.float .f32 x14, .float .f32 x15]))⟩, ⟨true, (some (.cells [.float .f32 x16, .float .f32 x17]))⟩, ⟨true, (some (.strs x18))⟩, ⟨true, (some (.tab [.int .i8, .int .i16, .fl .f32] x19))⟩], 7, [3]⟩)].map fun (b, x) => (b, (x.1, frameOf 117 [2, 5, 6, 7, 10, 12, 13, 15, 16] x.2.1, x.2.2))) :=
 (show evC Try.prog ext T22 noL 200 (loopN Try.f36 0) (loopTail ([2, 5, 6, 7, 10, 12, 15, 16, 17], []) [2, 5, 6, 7, 10, 12, 13, 15, 16] [3] (sumK 117 [2, 5, 6, 7, 10, 12, 15, 16, 17] [2, 5, 6, 7, 10, 12, 13, 15, 16] (q36l0 m))) (frameOf 117 [2, 5, 6, 7, 10, 12, 15, 16, 17] [.int .i64 x0, .int .i64 x1, .pointer (some ⟨0, 0, some 0⟩), .pointer (some ⟨1, 0, some 0⟩), .pointer (some ⟨2, 0, some 0⟩), .pointer (some ⟨3, 0, some 0⟩), .int .i64 x2, .pointer (some ⟨4, 0, some 0⟩), .int .i64 x3]) ⟨[⟨true, (some (.cells [wsl 5, wsl 6]))⟩, ⟨true, (some (.cells [.float .f32 x4, .float .f32 x5, .float .f32 x6, .float .f32 x7, .float .f32 x8, .float .f32 x9, .float .f32 x10, .float .f32 x11]))⟩, ⟨true, (some (.cells [.float .f32 x12, .float .f32 x13]))⟩, ⟨true, (some (.cells [.float .f32 x14, .float .f32 x15]))⟩, ⟨true, (some (.cells [.float .f32 x16, .float .f32 x17]))⟩, ⟨true, (some (.strs x18))⟩, ⟨true, (some (.tab [.int .i8, .int .i16, .fl .f32] x19))⟩], 7, []⟩ = w36l0 (r36l0 m) x0 x1 x2 x3 x4 x5 x6 x7 x8 x9 x10 x11 x12 x13 x14 x15 x16 x17 x18 x19 from by kernel_rfl).trans
 (show w36l0 (r36l0 m) x0 x1 x2 x3 x4 x5 x6 x7 x8 x9 x10 x11 x12 x13 x14 x15 x16 x17 x18 x19 = a36l0 x0 x1 x2 x3 x4 x5 x6 x7 x8 x9 x10 x11 x12 x13 x14 x15 x16 x17 x18 x19 (r36l0 (m + 1) x0 x1 x2 x3 x4 x5 x6 x7 x8 x9 x10 x11 x12 x13 x14 x15 x16 x17 x18 x19) from by unfold w36l0; show _ = a36l0 x0 x1 x2 x3 x4 x5 x6 x7 x8 x9 x10 x11 x12 x13 x14 x15 x16 x17 x18 x19 (b36l0 (r36l0 m) x0 x1 x2 x3 x4 x5 x6 x7 x8 x9 x10 x11 x12 x13 x14 x15 x16 x17 x18 x19); unfold b36l0; exact (cond_app (a36l0 x0 x1 x2 x3 x4 x5 x6 x7 x8 x9 x10 x11 x12 x13 x14 x15 x16 x17 x18 x19) _ (cond_app (a36l0 x0 x1 x2 x3 x4 x5 x6 x7 x8 x9 x10 x11 x12 x13 x14 x15 x16 x17 x18 x19) _ rfl (cond_app (a36l0 x0 x1 x2 x3 x4 x5 x6 x7 x8 x9 x10 x11 x12 x13 x14 x15 x16 x17 x18 x19) _ rfl (cond_app (a36l0 x0 x1 x2 x3 x4 x5 x6 x7 x8 x9 x10 x11 x12 x13 x14 x15 x16 x17 x18 x19) _ rfl (v36l0 x0 x1 x2 x3 x4 x5 x6 x7 x8 x9 x10 x11 x12 x13 x14 x15 x16 x17 x18 x19 ((r36l0 m) x0 x1 x2 (IntKind.i64.wrap (x3 + 1)) x4 x5 x6 x7 x8 x9 x10 x11 x12 x13 x14 x15 x16 x17 x18 x19))))) rfl))
set_option maxRecDepth 100000 in
set_option maxHeartbeats 4000000 in
theorem qm36l0 : ∀ m, SumKOk Try.prog (loopN Try.f36 0) 117 [2, 5, 6, 7, 10, 12, 15, 16, 17] [2, 5, 6, 7, 10, 12, 13, 15, 16] (q36l0 m) := by
  intro m
  induction m with
  | zero =>
    intro vals s x h1 h2 h3
    unfold q36l0 at h3; split at h3
    · rename_i h; split at h3
      · rename_i hc; obtain ⟨rfl, rfl, rfl, rfl, rfl, rfl, rfl, rfl, rfl, rfl, rfl, rfl, rfl, rfl, rfl, rfl, rfl⟩ := hc; exact absurd h3 (by simp [r36l0, firstT, Nat.beq])
      · exact noQ_ok _ _ _ h1 h2 h3
    · exact noQ_ok _ _ _ h1 h2 h3
  | succ m ih =>
    intro vals s x h1 h2 h3
    unfold q36l0 at h3; split at h3
    · rename_i h; split at h3
      · rename_i hc; obtain ⟨rfl, rfl, rfl, rfl, rfl, rfl, rfl, rfl, rfl, rfl, rfl, rfl, rfl, rfl, rfl, rfl, rfl⟩ := hc; exact sum_step ok22 extOk mixed ((lfOkF_no _ _).inner (by kernel_rfl)) ih h1 h2 h (e36l0 m _ _ _ _ _ _ _ _ _ _ _ _ _ _ _ _ _ _ _ _) rfl h3
      · exact noQ_ok _ _ _ h1 h2 h3
    · exact noQ_ok _ _ _ h1 h2 h3
noncomputable def Q36l0 : SumK := fun vals s => q36l0 (fuelOf vals s.h) vals s
theorem qok36l0 : SumKOk Try.prog (loopN Try.f36 0) 117 [2, 5, 6, 7, 10, 12, 15, 16, 17] [2, 5, 6, 7, 10, 12, 13, 15, 16] Q36l0 := fuel_ok qm36l0 fuelOf
noncomputable def L36_1 : LoopT := addL noL 12 ([2, 5, 6, 7, 10, 12, 15, 16, 17], []) (sumK 117 [2, 5, 6, 7, 10, 12, 15, 16, 17] [2, 5, 6, 7, 10, 12, 13, 15, 16] Q36l0)
theorem lok36_1 : LfOkF Try.prog L36_1 Try.f36 := lfOkF_add (lfOkF_no _ _) qok36l0 (by kernel_rfl) (by kernel_rfl) (by kernel_rfl)

/-- math.Inf -/
noncomputable def r111 (x0 : Int) : Nat :=
 cond (decide ((x0 : Int) ≥ 0))
  (9218868437227405312)
  (18442240474082181120)
noncomputable def a111 (x0 : Int) (p : Nat) : Res := firstT [(true, .float .f64 p, st0)]
noncomputable def w111 (x0 : Int) : Res :=
 (cond (decide ((x0 : Int) ≥ 0))
 (a111 x0 (9218868437227405312))
 (a111 x0 (18442240474082181120)))
set_option maxRecDepth 100000 in
set_option maxHeartbeats 4000000 in
theorem e111 (x0 : Int) : evFn Try.prog ext T22 noL 200 Try.f111 [.int .i64 x0] st0 = firstT [(true, .float .f64 (r111 x0), st0)] :=
 (show evFn Try.prog ext T22 noL 200 Try.f111 [.int .i64 x0] st0 = w111 x0 from by kernel_rfl).trans
 (show w111 x0 = a111 x0 (r111 x0) from by unfold w111 r111; exact (cond_app (a111 x0) _ rfl rfl))
noncomputable def s111 (args : List Value) (s : St) : List (Bool × Value × St) :=
 match args, s.h with
 | [.int .i64 x0], [] => [(true, .float .f64 (r111 x0), st0)]
 | _, _ => T22 111 args s
noncomputable def T23 : CallF := addF T22 111 s111
set_option maxRecDepth 100000 in
set_option maxHeartbeats 4000000 in
theorem ok23 : CfOk Try.prog T23 := by
  refine cfOk_add ok22 fun args s r s' h1 h2 h3 => ?_
  unfold s111 at h3; split at h3
  · rename_i h; exact callOk ok22 Try.func111 h1 h2 h (lfOkF_no _ _).body (e111 _) rfl h3
  · exact ok22 _ _ _ _ _ h1 h2 h3

/-- spec.l05Up -/
noncomputable def r113 (x0 : Nat) : Nat :=
 cond (!feq .f32 x0 x0)
  (x0)
  (cond (fgt .f32 x0 2139095039)
  (x0)
  (cond (feq .f32 x0 0)
  (1)
  (cond (fgt .f32 x0 0)
  ((Int.toNat (IntKind.u32.wrap (((x0 : Nat) : Int) + 1))))
  ((Int.toNat (IntKind.u32.wrap (((x0 : Nat) : Int) - 1)))))))
noncomputable def a113 (x0 : Nat) (p : Nat) : Res := firstT [(true, .float .f32 p, st0)]
noncomputable def w113 (x0 : Nat) : Res :=
 (cond (!feq .f32 x0 x0)
 (a113 x0 (x0))
 (cond (fgt .f32 x0 2139095039)
  (a113 x0 (x0))
  (cond (!isN .f32 x0)
  (cond (feq .f32 x0 0)
  (a113 x0 (1))
  (cond (fgt .f32 x0 0)
  (a113 x0 ((Int.toNat (IntKind.u32.wrap (((x0 : Nat) : Int) + 1)))))
  (a113 x0 ((Int.toNat (IntKind.u32.wrap (((x0 : Nat) : Int) - 1)))))))
  (cond (feq .f32 x0 0)
  (some (.float .f32 1, st0))
  (cond (fgt .f32 x0 0)
  none
  none)))))
set_option maxRecDepth 100000 in
set_option maxHeartbeats 4000000 in
theorem e113 (x0 : Nat) : evFn Try.prog ext T23 noL 200 Try.f113 [.float .f32 x0] st0 = firstT [(true, .float .f32 (r113 x0), st0)] :=
 (show evFn Try.prog ext T23 noL 200 Try.f113 [.float .f32 x0] st0 = w113 x0 from by kernel_rfl).trans
 (show w113 x0 = a113 x0 (r113 x0) from by unfold w113 r113; exact (cond_both (a113 x0) _ (fun h0 => rfl) (fun h0 => (cond_both (a113 x0) _ (fun h1 => rfl) (fun h1 => (cond_t (ev_not1 (ev_eq1 (ev_notf h0))) (cond_app (a113 x0) _ rfl (cond_app (a113 x0) _ rfl rfl))))))))
noncomputable def s113 (args : List Value) (s : St) : List (Bool × Value × St) :=
 match args, s.h with
 | [.float .f32 x0], [] => [(true, .float .f32 (r113 x0), st0)]
 | _, _ => T23 113 args s
noncomputable def T24 : CallF := addF T23 113 s113
set_option maxRecDepth 100000 in
set_option maxHeartbeats 4000000 in
theorem ok24 : CfOk Try.prog T24 := by
  refine cfOk_add ok23 fun args s r s' h1 h2 h3 => ?_
  unfold s113 at h3; split at h3
  · rename_i h; exact callOk ok23 Try.func113 h1 h2 h (lfOkF_no _ _).body (e113 _) rfl h3
  · exact ok23 _ _ _ _ _ h1 h2 h3

/-- spec.l05Down -/
noncomputable def r112 (x0 : Nat) : Nat :=
 ((fneg .f32 (r113 (fneg .f32 x0))))
noncomputable def a112 (x0 : Nat) (p : Nat) : Res := firstT [(true, .float .f32 p, st0)]
noncomputable def w112 (x0 : Nat) : Res :=
 (a112 x0 ((fneg .f32 (r113 (fneg .f32 x0)))))
set_option maxRecDepth 100000 in
set_option maxHeartbeats 4000000 in
theorem e112 (x0 : Nat) : evFn Try.prog ext T24 noL 200 Try.f112 [.float .f32 x0] st0 = firstT [(true, .float .f32 (r112 x0), st0)] :=
 (show evFn Try.prog ext T24 noL 200 Try.f112 [.float .f32 x0] st0 = w112 x0 from by kernel_rfl).trans
 (show w112 x0 = a112 x0 (r112 x0) from by unfold w112 r112; exact rfl)
noncomputable def s112 (args : List Value) (s : St) : List (Bool × Value × St) :=
 match args, s.h with
 | [.float .f32 x0], [] => [(true, .float .f32 (r112 x0), st0)]
 | _, _ => T24 112 args s
noncomputable def T25 : CallF := addF T24 112 s112
set_option maxRecDepth 100000 in
set_option maxHeartbeats 4000000 in
theorem ok25 : CfOk Try.prog T25 := by
  refine cfOk_add ok24 fun args s r s' h1 h2 h3 => ?_
  unfold s112 at h3; split at h3
  · rename_i h; exact callOk ok24 Try.func112 h1 h2 h (lfOkF_no _ _).body (e112 _) rfl h3
  · exact ok24 _ _ _ _ _ h1 h2 h3

/-- spec.l05Low -/
noncomputable def r109 (x0 : Nat) : Nat × Nat :=
 cond (!feq .f32 x0 x0)
  (cond (narrowOk (r111 (-1)))
  (0, (narrow (r111 (-1))))
  (1, 0))
  (0, (r112 x0))
noncomputable def a109 (x0 : Nat) (p : Nat × Nat) : Res := firstT [((Nat.beq (p.1) 0), .float .f32 (p.2), st0)]
noncomputable def w109 (x0 : Nat) : Res :=
 (cond (!feq .f32 x0 x0)
 (cond (narrowOk (r111 (-1)))
  (a109 x0 (0, (narrow (r111 (-1)))))
  none)
 (a109 x0 (0, (r112 x0))))
set_option maxRecDepth 100000 in
set_option maxHeartbeats 4000000 in
theorem e109 (x0 : Nat) : evFn Try.prog ext T25 noL 200 Try.f109 [.float .f32 x0] st0 = firstT [((Nat.beq ((r109 x0).1) 0), .float .f32 ((r109 x0).2), st0)] :=
 (show evFn Try.prog ext T25 noL 200 Try.f109 [.float .f32 x0] st0 = w109 x0 from by kernel_rfl).trans
 (show w109 x0 = a109 x0 (r109 x0) from by unfold w109 r109; exact (cond_app (a109 x0) _ (cond_app (a109 x0) _ rfl rfl) rfl))
noncomputable def s109 (args : List Value) (s : St) : List (Bool × Value × St) :=
 match args, s.h with
 | [.float .f32 x0], [] => [((Nat.beq ((r109 x0).1) 0), .float .f32 ((r109 x0).2), st0)]
 | _, _ => T25 109 args s
noncomputable def T26 : CallF := addF T25 109 s109
set_option maxRecDepth 100000 in
set_option maxHeartbeats 4000000 in
theorem ok26 : CfOk Try.prog T26 := by
  refine cfOk_add ok25 fun args s r s' h1 h2 h3 => ?_
  unfold s109 at h3; split at h3
  · rename_i h; exact callOk ok25 Try.func109 h1 h2 h (lfOkF_no _ _).body (e109 _) rfl h3
  · exact ok25 _ _ _ _ _ h1 h2 h3

/-- spec.l05High -/
noncomputable def r110 (x0 : Nat) : Nat × Nat :=
 cond (!feq .f32 x0 x0)
  (cond (narrowOk (r111 1))
  (0, (narrow (r111 1)))
  (1, 0))
  (0, (r113 x0))
noncomputable def a110 (x0 : Nat) (p : Nat × Nat) : Res := firstT [((Nat.beq (p.1) 0), .float .f32 (p.2), st0)]
noncomputable def w110 (x0 : Nat) : Res :=
 (cond (!feq .f32 x0 x0)
 (cond (narrowOk (r111 1))
  (a110 x0 (0, (narrow (r111 1))))
  none)
 (a110 x0 (0, (r113 x0))))
set_option maxRecDepth 100000 in
set_option maxHeartbeats 4000000 in
theorem e110 (x0 : Nat) : evFn Try.prog ext T26 noL 200 Try.f110 [.float .f32 x0] st0 = firstT [((Nat.beq ((r110 x0).1) 0), .float .f32 ((r110 x0).2), st0)] :=
 (show evFn Try.prog ext T26 noL 200 Try.f110 [.float .f32 x0] st0 = w110 x0 from by kernel_rfl).trans
 (show w110 x0 = a110 x0 (r110 x0) from by unfold w110 r110; exact (cond_app (a110 x0) _ (cond_app (a110 x0) _ rfl rfl) rfl))
noncomputable def s110 (args : List Value) (s : St) : List (Bool × Value × St) :=
 match args, s.h with
 | [.float .f32 x0], [] => [((Nat.beq ((r110 x0).1) 0), .float .f32 ((r110 x0).2), st0)]
 | _, _ => T26 110 args s
noncomputable def T27 : CallF := addF T26 110 s110
set_option maxRecDepth 100000 in
set_option maxHeartbeats 4000000 in
theorem ok27 : CfOk Try.prog T27 := by
  refine cfOk_add ok26 fun args s r s' h1 h2 h3 => ?_
  unfold s110 at h3; split at h3
  · rename_i h; exact callOk ok26 Try.func110 h1 h2 h (lfOkF_no _ _).body (e110 _) rfl h3
  · exact ok26 _ _ _ _ _ h1 h2 h3

/-- spec.l05Add -/
noncomputable def r98 (x0 x1 x2 x3 : Nat) : Nat × Nat × Nat :=
 cond (Nat.beq ((r109 (fadd .f32 x0 x2)).1) 0)
  (cond (Nat.beq ((r110 (fadd .f32 x1 x3)).1) 0)
  (0, ((r109 (fadd .f32 x0 x2)).2), ((r110 (fadd .f32 x1 x3)).2))
  (1, 0, 0))
  (1, 0, 0)
noncomputable def a98 (x0 x1 x2 x3 : Nat) (p : Nat × Nat × Nat) : Res := firstT [((Nat.beq (p.1) 0), .agg #[.float .f32 (p.2.1), .float .f32 (p.2.2)], st0)]
noncomputable def w98 (x0 x1 x2 x3 : Nat) : Res :=
 (cond (Nat.beq ((r109 (fadd .f32 x0 x2)).1) 0)
 (cond (Nat.beq ((r110 (fadd .f32 x1 x3)).1) 0)
  (a98 x0 x1 x2 x3 (0, ((r109 (fadd .f32 x0 x2)).2), ((r110 (fadd .f32 x1 x3)).2)))
  none)
 none)
set_option maxRecDepth 100000 in
set_option maxHeartbeats 4000000 in
theorem e98 (x0 x1 x2 x3 : Nat) : evFn Try.prog ext T27 noL 200 Try.f98 [.agg #[.float .f32 x0, .float .f32 x1], .agg #[.float .f32 x2, .float .f32 x3]] st0 = firstT [((Nat.beq ((r98 x0 x1 x2 x3).1) 0), .agg #[.float .f32 ((r98 x0 x1 x2 x3).2.1), .float .f32 ((r98 x0 x1 x2 x3).2.2)], st0)] :=
 (show evFn Try.prog ext T27 noL 200 Try.f98 [.agg #[.float .f32 x0, .float .f32 x1], .agg #[.float .f32 x2, .float .f32 x3]] st0 = w98 x0 x1 x2 x3 from by kernel_rfl).trans
 (show w98 x0 x1 x2 x3 = a98 x0 x1 x2 x3 (r98 x0 x1 x2 x3) from by unfold w98 r98; exact (cond_app (a98 x0 x1 x2 x3) _ (cond_app (a98 x0 x1 x2 x3) _ rfl rfl) rfl))
noncomputable def s98 (args : List Value) (s : St) : List (Bool × Value × St) :=
 match args, s.h with
 | [.agg ⟨[.float .f32 x0, .float .f32 x1]⟩, .agg ⟨[.float .f32 x2, .float .f32 x3]⟩], [] => [((Nat.beq ((r98 x0 x1 x2 x3).1) 0), .agg #[.float .f32 ((r98 x0 x1 x2 x3).2.1), .float .f32 ((r98 x0 x1 x2 x3).2.2)], st0)]
 | _, _ => T27 98 args s
noncomputable def T28 : CallF := addF T27 98 s98
set_option maxRecDepth 100000 in
set_option maxHeartbeats 4000000 in
theorem ok28 : CfOk Try.prog T28 := by
  refine cfOk_add ok27 fun args s r s' h1 h2 h3 => ?_
  unfold s98 at h3; split at h3
  · rename_i h; exact callOk ok27 Try.func98 h1 h2 h (lfOkF_no _ _).body (e98 _ _ _ _) rfl h3
  · exact ok27 _ _ _ _ _ h1 h2 h3

/-- spec.l05Sub -/
noncomputable def r99 (x0 x1 x2 x3 : Nat) : Nat × Nat × Nat :=
 cond (Nat.beq ((r109 (fsub .f32 x0 x3)).1) 0)
  (cond (Nat.beq ((r110 (fsub .f32 x1 x2)).1) 0)
  (0, ((r109 (fsub .f32 x0 x3)).2), ((r110 (fsub .f32 x1 x2)).2))
  (1, 0, 0))
  (1, 0, 0)
noncomputable def a99 (x0 x1 x2 x3 : Nat) (p : Nat × Nat × Nat) : Res := firstT [((Nat.beq (p.1) 0), .agg #[.float .f32 (p.2.1), .float .f32 (p.2.2)], st0)]
noncomputable def w99 (x0 x1 x2 x3 : Nat) : Res :=
 (cond (Nat.beq ((r109 (fsub .f32 x0 x3)).1) 0)
 (cond (Nat.beq ((r110 (fsub .f32 x1 x2)).1) 0)
  (a99 x0 x1 x2 x3 (0, ((r109 (fsub .f32 x0 x3)).2), ((r110 (fsub .f32 x1 x2)).2)))
  none)
 none)
set_option maxRecDepth 100000 in
set_option maxHeartbeats 4000000 in
theorem e99 (x0 x1 x2 x3 : Nat) : evFn Try.prog ext T28 noL 200 Try.f99 [.agg #[.float .f32 x0, .float .f32 x1], .agg #[.float .f32 x2, .float .f32 x3]] st0 = firstT [((Nat.beq ((r99 x0 x1 x2 x3).1) 0), .agg #[.float .f32 ((r99 x0 x1 x2 x3).2.1), .float .f32 ((r99 x0 x1 x2 x3).2.2)], st0)] :=
 (show evFn Try.prog ext T28 noL 200 Try.f99 [.agg #[.float .f32 x0, .float .f32 x1], .agg #[.float .f32 x2, .float .f32 x3]] st0 = w99 x0 x1 x2 x3 from by kernel_rfl).trans
 (show w99 x0 x1 x2 x3 = a99 x0 x1 x2 x3 (r99 x0 x1 x2 x3) from by unfold w99 r99; exact (cond_app (a99 x0 x1 x2 x3) _ (cond_app (a99 x0 x1 x2 x3) _ rfl rfl) rfl))
noncomputable def s99 (args : List Value) (s : St) : List (Bool × Value × St) :=
 match args, s.h with
 | [.agg ⟨[.float .f32 x0, .float .f32 x1]⟩, .agg ⟨[.float .f32 x2, .float .f32 x3]⟩], [] => [((Nat.beq ((r99 x0 x1 x2 x3).1) 0), .agg #[.float .f32 ((r99 x0 x1 x2 x3).2.1), .float .f32 ((r99 x0 x1 x2 x3).2.2)], st0)]
 | _, _ => T28 99 args s
noncomputable def T29 : CallF := addF T28 99 s99
set_option maxRecDepth 100000 in
set_option maxHeartbeats 4000000 in
theorem ok29 : CfOk Try.prog T29 := by
  refine cfOk_add ok28 fun args s r s' h1 h2 h3 => ?_
  unfold s99 at h3; split at h3
  · rename_i h; exact callOk ok28 Try.func99 h1 h2 h (lfOkF_no _ _).body (e99 _ _ _ _) rfl h3
  · exact ok28 _ _ _ _ _ h1 h2 h3

/-- spec.l05Mul, loop 0 -/
noncomputable def r100l0 (x0 x1 x2 x3 x4 x5 x6 x7 : Nat) : Unit :=
 ()
noncomputable def a100l0 (x0 x1 x2 x3 x4 x5 x6 x7 : Nat) (p : Unit) : Option (Fin' × List Value × St) := firstT ([(true, .exit 0, [.pointer (some ⟨0, 0, some 0⟩), .float .f32 x0, .float .f32 x1], ⟨[⟨true, (some (.cells [.float .f32 x2, .float .f32 x3]))⟩, ⟨true, (some (.cells [.float .f32 x4, .float .f32 x5, .float .f32 x6, .float .f32 x7]))⟩], 2, []⟩)].map fun (b, x) => (b, (x.1, frameOf 63 [4, 6, 7] x.2.1, x.2.2)))
noncomputable def w100l0 (x0 x1 x2 x3 x4 x5 x6 x7 : Nat) : Option (Fin' × List Value × St) :=
 (a100l0 x0 x1 x2 x3 x4 x5 x6 x7 ())
set_option maxRecDepth 100000 in
set_option maxHeartbeats 4000000 in
theorem e100l0 (x0 x1 x2 x3 x4 x5 x6 x7 : Nat) : evC Try.prog ext T29 noL 200 (loopN Try.f100 0) (loopTail ([4, 5, 6, 7, 8], []) [4, 6, 7] [] (sumK 63 [4, 5, 6, 7, 8] [4, 6, 7] noQ)) (frameOf 63 [4, 5, 6, 7, 8] [.pointer (some ⟨0, 0, some 0⟩), .pointer (some ⟨1, 0, some 0⟩), .float .f32 x0, .float .f32 x1, .int .i64 4]) ⟨[⟨true, (some (.cells [.float .f32 x2, .float .f32 x3]))⟩, ⟨true, (some (.cells [.float .f32 x4, .float .f32 x5, .float .f32 x6, .float .f32 x7]))⟩], 2, []⟩ = firstT ([(true, .exit 0, [.pointer (some ⟨0, 0, some 0⟩), .float .f32 x0, .float .f32 x1], ⟨[⟨true, (some (.cells [.float .f32 x2, .float .f32 x3]))⟩, ⟨true, (some (.cells [.float .f32 x4, .float .f32 x5, .float .f32 x6, .float .f32 x7]))⟩], 2, []⟩)].map fun (b, x) => (b, (x.1, frameOf 63 [4, 6, 7] x.2.1, x.2.2))) :=
 (show evC Try.prog ext T29 noL 200 (loopN Try.f100 0) (loopTail ([4, 5, 6, 7, 8], []) [4, 6, 7] [] (sumK 63 [4, 5, 6, 7, 8] [4, 6, 7] noQ)) (frameOf 63 [4, 5, 6, 7, 8] [.pointer (some ⟨0, 0, some 0⟩), .pointer (some ⟨1, 0, some 0⟩), .float .f32 x0, .float .f32 x1, .int .i64 4]) ⟨[⟨true, (some (.cells [.float .f32 x2, .float .f32 x3]))⟩, ⟨true, (some (.cells [.float .f32 x4, .float .f32 x5, .float .f32 x6, .float .f32 x7]))⟩], 2, []⟩ = w100l0 x0 x1 x2 x3 x4 x5 x6 x7 from by kernel_rfl).trans
 (show w100l0 x0 x1 x2 x3 x4 x5 x6 x7 = a100l0 x0 x1 x2 x3 x4 x5 x6 x7 (r100l0 x0 x1 x2 x3 x4 x5 x6 x7) from by unfold w100l0 r100l0; exact rfl)
noncomputable def Q100l0 : SumK := fun vals s =>
 match vals, s.h with
 | [.pointer (some ⟨f0, f1, some f2⟩), .pointer (some ⟨f3, f4, some f5⟩), .float .f32 x0, .float .f32 x1, .int .i64 f6], [⟨true, some (.cells [.float .f32 x2, .float .f32 x3])⟩, ⟨true, some (.cells [.float .f32 x4, .float .f32 x5, .float .f32 x6, .float .f32 x7])⟩] => if f0 = 0 ∧ f1 = 0 ∧ f2 = 0 ∧ f3 = 1 ∧ f4 = 0 ∧ f5 = 0 ∧ f6 = 4 then [(true, .exit 0, [.pointer (some ⟨0, 0, some 0⟩), .float .f32 x0, .float .f32 x1], ⟨[⟨true, (some (.cells [.float .f32 x2, .float .f32 x3]))⟩, ⟨true, (some (.cells [.float .f32 x4, .float .f32 x5, .float .f32 x6, .float .f32 x7]))⟩], 2, []⟩)] else noQ vals s
 | _, _ => noQ vals s
set_option maxRecDepth 100000 in
set_option maxHeartbeats 4000000 in
theorem qok100l0 : SumKOk Try.prog (loopN Try.f100 0) 63 [4, 5, 6, 7, 8] [4, 6, 7] Q100l0 := by
  intro vals s x h1 h2 h3
  unfold Q100l0 at h3; split at h3
  · rename_i h; split at h3
    · rename_i hc; obtain ⟨rfl, rfl, rfl, rfl, rfl, rfl, rfl⟩ := hc; exact sum_step ok29 extOk mixed ((lfOkF_no _ _).inner (by kernel_rfl)) noQ_ok h1 h2 h (e100l0 _ _ _ _ _ _ _ _) rfl h3
    · exact noQ_ok _ _ _ h1 h2 h3
  · exact noQ_ok _ _ _ h1 h2 h3
noncomputable def L100_1 : LoopT := addL noL 6 ([4, 5, 6, 7, 8], []) (sumK 63 [4, 5, 6, 7, 8] [4, 6, 7] Q100l0)
theorem lok100_1 : LfOkF Try.prog L100_1 Try.f100 := lfOkF_add (lfOkF_no _ _) qok100l0 (by kernel_rfl) (by kernel_rfl) (by kernel_rfl)

/-- spec.l05Mul, loop 0 -/
noncomputable def r100l0b (x0 x1 x2 x3 x4 x5 x6 x7 : Nat) : Nat × Nat × Nat × Nat × Nat :=
 cond (!feq .f32 x7 x7)
  (cond (narrowOk (r111 (-1)))
  (cond (narrowOk (r111 1))
  (0, (narrow (r111 (-1))), (narrow (r111 1)), 0, 0)
  (2, 0, 0, 0, 0))
  (2, 0, 0, 0, 0))
  (cond (flt .f32 x7 x0)
  (cond (fgt .f32 x7 x1)
  (1, 0, 0, x7, x7)
  (1, 0, 0, x7, x1))
  (cond (fgt .f32 x7 x1)
  (1, 0, 0, x0, x7)
  (1, 0, 0, x0, x1)))
noncomputable def a100l0b (x0 x1 x2 x3 x4 x5 x6 x7 : Nat) (p : Nat × Nat × Nat × Nat × Nat) : Option (Fin' × List Value × St) := firstT ([((Nat.beq (p.1) 0), .ret, [.pointer (some ⟨0, 0, some 0⟩), .float .f32 x0, .float .f32 x1], ⟨[⟨true, (some (.cells [.float .f32 (p.2.1), .float .f32 (p.2.2.1)]))⟩, ⟨true, (some (.cells [.float .f32 x4, .float .f32 x5, .float .f32 x6, .float .f32 x7]))⟩], 2, [0]⟩), ((Nat.beq (p.1) 1), .exit 0, [.pointer (some ⟨0, 0, some 0⟩), .float .f32 (p.2.2.2.1), .float .f32 (p.2.2.2.2)], ⟨[⟨true, (some (.cells [.float .f32 x2, .float .f32 x3]))⟩, ⟨true, (some (.cells [.float .f32 x4, .float .f32 x5, .float .f32 x6, .float .f32 x7]))⟩], 2, [0]⟩)].map fun (b, x) => (b, (x.1, frameOf 63 [4, 6, 7] x.2.1, x.2.2)))
noncomputable def w100l0b (x0 x1 x2 x3 x4 x5 x6 x7 : Nat) : Option (Fin' × List Value × St) :=
 (cond (!feq .f32 x7 x7)
 (cond (narrowOk (r111 (-1)))
  (cond (narrowOk (r111 1))
  (a100l0b x0 x1 x2 x3 x4 x5 x6 x7 (0, (narrow (r111 (-1))), (narrow (r111 1)), 0, 0))
  none)
  none)
 (cond (flt .f32 x7 x0)
  (cond (fgt .f32 x7 x1)
  (a100l0b x0 x1 x2 x3 x4 x5 x6 x7 (1, 0, 0, x7, x7))
  (a100l0b x0 x1 x2 x3 x4 x5 x6 x7 (1, 0, 0, x7, x1)))
  (cond (fgt .f32 x7 x1)
  (a100l0b x0 x1 x2 x3 x4 x5 x6 x7 (1, 0, 0, x0, x7))
  (a100l0b x0 x1 x2 x3 x4 x5 x6 x7 (1, 0, 0, x0, x1)))))
set_option maxRecDepth 100000 in
set_option maxHeartbeats 4000000 in
theorem e100l0b (x0 x1 x2 x3 x4 x5 x6 x7 : Nat) : evC Try.prog ext T29 L100_1 200 (loopN Try.f100 0) (loopTail ([4, 5, 6, 7, 8], []) [4, 6, 7] [0] (sumK 63 [4, 5, 6, 7, 8] [4, 6, 7] Q100l0)) (frameOf 63 [4, 5, 6, 7, 8] [.pointer (some ⟨0, 0, some 0⟩), .pointer (some ⟨1, 0, some 0⟩), .float .f32 x0, .float .f32 x1, .int .i64 3]) ⟨[⟨true, (some (.cells [.float .f32 x2, .float .f32 x3]))⟩, ⟨true, (some (.cells [.float .f32 x4, .float .f32 x5, .float .f32 x6, .float .f32 x7]))⟩], 2, []⟩ = firstT ([((Nat.beq ((r100l0b x0 x1 x2 x3 x4 x5 x6 x7).1) 0), .ret, [.pointer (some ⟨0, 0, some 0⟩), .float .f32 x0, .float .f32 x1], ⟨[⟨true, (some (.cells [.float .f32 ((r100l0b x0 x1 x2 x3 x4 x5 x6 x7).2.1), .float .f32 ((r100l0b x0 x1 x2 x3 x4 x5 x6 x7).2.2.1)]))⟩, ⟨true, (some (.cells [.float .f32 x4, .float .f32 x5, .float .f32 x6, .float .f32 x7]))⟩], 2, [0]⟩), ((Nat.beq ((r100l0b x0 x1 x2 x3 x4 x5 x6 x7).1) 1), .exit 0, [.pointer (some ⟨0, 0, some 0⟩), .float .f32 ((r100l0b x0 x1 x2 x3 x4 x5 x6 x7).2.2.2.1), .float .f32 ((r100l0b x0 x1 x2 x3 x4 x5 x6 x7).2.2.2.2)], ⟨[⟨true, (some (.cells [.float .f32 x2, .float .f32 x3]))⟩, ⟨true, (some (.cells [.float .f32 x4, .float .f32 x5, .float .f32 x6, .float .f32 x7]))⟩], 2, [0]⟩)].map fun (b, x) => (b, (x.1, frameOf 63 [4, 6, 7] x.2.1, x.2.2))) :=
 (show evC Try.prog ext T29 L100_1 200 (loopN Try.f100 0) (loopTail ([4, 5, 6, 7, 8], []) [4, 6, 7] [0] (sumK 63 [4, 5, 6, 7, 8] [4, 6, 7] Q100l0)) (frameOf 63 [4, 5, 6, 7, 8] [.pointer (some ⟨0, 0, some 0⟩), .pointer (some ⟨1, 0, some 0⟩), .float .f32 x0, .float .f32 x1, .int .i64 3]) ⟨[⟨true, (some (.cells [.float .f32 x2, .float .f32 x3]))⟩, ⟨true, (some (.cells [.float .f32 x4, .float .f32 x5, .float .f32 x6, .float .f32 x7]))⟩], 2, []⟩ = w100l0b x0 x1 x2 x3 x4 x5 x6 x7 from by kernel_rfl).trans
 (show w100l0b x0 x1 x2 x3 x4 x5 x6 x7 = a100l0b x0 x1 x2 x3 x4 x5 x6 x7 (r100l0b x0 x1 x2 x3 x4 x5 x6 x7) from by unfold w100l0b r100l0b; exact (cond_app (a100l0b x0 x1 x2 x3 x4 x5 x6 x7) _ (cond_app (a100l0b x0 x1 x2 x3 x4 x5 x6 x7) _ (cond_app (a100l0b x0 x1 x2 x3 x4 x5 x6 x7) _ rfl rfl) rfl) (cond_app (a100l0b x0 x1 x2 x3 x4 x5 x6 x7) _ (cond_app (a100l0b x0 x1 x2 x3 x4 x5 x6 x7) _ rfl rfl) (cond_app (a100l0b x0 x1 x2 x3 x4 x5 x6 x7) _ rfl rfl))))
noncomputable def Q100l0b : SumK := fun vals s =>
 match vals, s.h with
 | [.pointer (some ⟨f0, f1, some f2⟩), .pointer (some ⟨f3, f4, some f5⟩), .float .f32 x0, .float .f32 x1, .int .i64 f6], [⟨true, some (.cells [.float .f32 x2, .float .f32 x3])⟩, ⟨true, some (.cells [.float .f32 x4, .float .f32 x5, .float .f32 x6, .float .f32 x7])⟩] => if f0 = 0 ∧ f1 = 0 ∧ f2 = 0 ∧ f3 = 1 ∧ f4 = 0 ∧ f5 = 0 ∧ f6 = 3 then [((Nat.beq ((r100l0b x0 x1 x2 x3 x4 x5 x6 x7).1) 0), .ret, [.pointer (some ⟨0, 0, some 0⟩), .float .f32 x0, .float .f32 x1], ⟨[⟨true, (some (.cells [.float .f32 ((r100l0b x0 x1 x2 x3 x4 x5 x6 x7).2.1), .float .f32 ((r100l0b x0 x1 x2 x3 x4 x5 x6 x7).2.2.1)]))⟩, ⟨true, (some (.cells [.float .f32 x4, .float .f32 x5, .float .f32 x6, .float .f32 x7]))⟩], 2, [0]⟩), ((Nat.beq ((r100l0b x0 x1 x2 x3 x4 x5 x6 x7).1) 1), .exit 0, [.pointer (some ⟨0, 0, some 0⟩), .float .f32 ((r100l0b x0 x1 x2 x3 x4 x5 x6 x7).2.2.2.1), .float .f32 ((r100l0b x0 x1 x2 x3 x4 x5 x6 x7).2.2.2.2)], ⟨[⟨true, (some (.cells [.float .f32 x2, .float .f32 x3]))⟩, ⟨true, (some (.cells [.float .f32 x4, .float .f32 x5, .float .f32 x6, .float .f32 x7]))⟩], 2, [0]⟩)] else Q100l0 vals s
 | _, _ => Q100l0 vals s
set_option maxRecDepth 100000 in
set_option maxHeartbeats 4000000 in
theorem qok100l0b : SumKOk Try.prog (loopN Try.f100 0) 63 [4, 5, 6, 7, 8] [4, 6, 7] Q100l0b := by
  intro vals s x h1 h2 h3
  unfold Q100l0b at h3; split at h3
  · rename_i h; split at h3
    · rename_i hc; obtain ⟨rfl, rfl, rfl, rfl, rfl, rfl, rfl⟩ := hc; exact sum_step ok29 extOk mixed (lok100_1.inner (by kernel_rfl)) qok100l0 h1 h2 h (e100l0b _ _ _ _ _ _ _ _) rfl h3
    · exact qok100l0 _ _ _ h1 h2 h3
  · exact qok100l0 _ _ _ h1 h2 h3
noncomputable def L100_2 : LoopT := addL L100_1 6 ([4, 5, 6, 7, 8], []) (sumK 63 [4, 5, 6, 7, 8] [4, 6, 7] Q100l0b)
theorem lok100_2 : LfOkF Try.prog L100_2 Try.f100 := lfOkF_add lok100_1 qok100l0b (by kernel_rfl) (by kernel_rfl) (by kernel_rfl)

/-- spec.l05Mul, loop 0 -/
noncomputable def r100l0c (x0 x1 x2 x3 x4 x5 x6 x7 : Nat) : Nat × Nat × Nat × Nat × Nat × Nat × Nat :=
 cond (!feq .f32 x6 x6)
  (cond (narrowOk (r111 (-1)))
  (cond (narrowOk (r111 1))
  (0, x0, x1, (narrow (r111 (-1))), (narrow (r111 1)), 0, 0)
  (2, 0, 0, 0, 0, 0, 0))
  (2, 0, 0, 0, 0, 0, 0))
  (cond (flt .f32 x6 x0)
  (cond (fgt .f32 x6 x1)
  (cond (Nat.beq ((r100l0b x6 x6 x2 x3 x4 x5 x6 x7).1) 0)
  (0, x6, x6, ((r100l0b x6 x6 x2 x3 x4 x5 x6 x7).2.1), ((r100l0b x6 x6 x2 x3 x4 x5 x6 x7).2.2.1), 0, 0)
  (cond (Nat.beq ((r100l0b x6 x6 x2 x3 x4 x5 x6 x7).1) 1)
  (1, 0, 0, 0, 0, ((r100l0b x6 x6 x2 x3 x4 x5 x6 x7).2.2.2.1), ((r100l0b x6 x6 x2 x3 x4 x5 x6 x7).2.2.2.2))
  (2, 0, 0, 0, 0, 0, 0)))
  (cond (Nat.beq ((r100l0b x6 x1 x2 x3 x4 x5 x6 x7).1) 0)
  (0, x6, x1, ((r100l0b x6 x1 x2 x3 x4 x5 x6 x7).2.1), ((r100l0b x6 x1 x2 x3 x4 x5 x6 x7).2.2.1), 0, 0)
  (cond (Nat.beq ((r100l0b x6 x1 x2 x3 x4 x5 x6 x7).1) 1)
  (1, 0, 0, 0, 0, ((r100l0b x6 x1 x2 x3 x4 x5 x6 x7).2.2.2.1), ((r100l0b x6 x1 x2 x3 x4 x5 x6 x7).2.2.2.2))
  (2, 0, 0, 0, 0, 0, 0))))
  (cond (fgt .f32 x6 x1)
  (cond (Nat.beq ((r100l0b x0 x6 x2 x3 x4 x5 x6 x7).1) 0)
  (0, x0, x6, ((r100l0b x0 x6 x2 x3 x4 x5 x6 x7).2.1), ((r100l0b x0 x6 x2 x3 x4 x5 x6 x7).2.2.1), 0, 0)
  (cond (Nat.beq ((r100l0b x0 x6 x2 x3 x4 x5 x6 x7).1) 1)
  (1, 0, 0, 0, 0, ((r100l0b x0 x6 x2 x3 x4 x5 x6 x7).2.2.2.1), ((r100l0b x0 x6 x2 x3 x4 x5 x6 x7).2.2.2.2))
  (2, 0, 0, 0, 0, 0, 0)))
  (cond (Nat.beq ((r100l0b x0 x1 x2 x3 x4 x5 x6 x7).1) 0)
  (0, x0, x1, ((r100l0b x0 x1 x2 x3 x4 x5 x6 x7).2.1), ((r100l0b x0 x1 x2 x3 x4 x5 x6 x7).2.2.1), 0, 0)
  (cond (Nat.beq ((r100l0b x0 x1 x2 x3 x4 x5 x6 x7).1) 1)
  (1, 0, 0, 0, 0, ((r100l0b x0 x1 x2 x3 x4 x5 x6 x7).2.2.2.1), ((r100l0b x0 x1 x2 x3 x4 x5 x6 x7).2.2.2.2))
  (2, 0, 0, 0, 0, 0, 0)))))
noncomputable def a100l0c (x0 x1 x2 x3 x4 x5 x6 x7 : Nat) (p : Nat × Nat × Nat × Nat × Nat × Nat × Nat) : Option (Fin' × List Value × St) := firstT ([((Nat.beq (p.1) 0), .ret, [.pointer (some ⟨0, 0, some 0⟩), .float .f32 (p.2.1), .float .f32 (p.2.2.1)], ⟨[⟨true, (some (.cells [.float .f32 (p.2.2.2.1), .float .f32 (p.2.2.2.2.1)]))⟩, ⟨true, (some (.cells [.float .f32 x4, .float .f32 x5, .float .f32 x6, .float .f32 x7]))⟩], 2, [0]⟩), ((Nat.beq (p.1) 1), .exit 0, [.pointer (some ⟨0, 0, some 0⟩), .float .f32 (p.2.2.2.2.2.1), .float .f32 (p.2.2.2.2.2.2)], ⟨[⟨true, (some (.cells [.float .f32 x2, .float .f32 x3]))⟩, ⟨true, (some (.cells [.float .f32 x4, .float .f32 x5, .float .f32 x6, .float .f32 x7]))⟩], 2, [0]⟩)].map fun (b, x) => (b, (x.1, frameOf 63 [4, 6, 7] x.2.1, x.2.2)))
noncomputable def w100l0c (x0 x1 x2 x3 x4 x5 x6 x7 : Nat) : Option (Fin' × List Value × St) :=
 (cond (!feq .f32 x6 x6)
 (cond (narrowOk (r111 (-1)))
  (cond (narrowOk (r111 1))
  (a100l0c x0 x1 x2 x3 x4 x5 x6 x7 (0, x0, x1, (narrow (r111 (-1))), (narrow (r111 1)), 0, 0))
  none)
  none)
 (cond (flt .f32 x6 x0)
  (cond (fgt .f32 x6 x1)
  (cond (Nat.beq ((r100l0b x6 x6 x2 x3 x4 x5 x6 x7).1) 0)
  (a100l0c x0 x1 x2 x3 x4 x5 x6 x7 (0, x6, x6, ((r100l0b x6 x6 x2 x3 x4 x5 x6 x7).2.1), ((r100l0b x6 x6 x2 x3 x4 x5 x6 x7).2.2.1), 0, 0))
  (cond (Nat.beq ((r100l0b x6 x6 x2 x3 x4 x5 x6 x7).1) 1)
  (a100l0c x0 x1 x2 x3 x4 x5 x6 x7 (1, 0, 0, 0, 0, ((r100l0b x6 x6 x2 x3 x4 x5 x6 x7).2.2.2.1), ((r100l0b x6 x6 x2 x3 x4 x5 x6 x7).2.2.2.2)))
  none))
  (cond (Nat.beq ((r100l0b x6 x1 x2 x3 x4 x5 x6 x7).1) 0)
  (a100l0c x0 x1 x2 x3 x4 x5 x6 x7 (0, x6, x1, ((r100l0b x6 x1 x2 x3 x4 x5 x6 x7).2.1), ((r100l0b x6 x1 x2 x3 x4 x5 x6 x7).2.2.1), 0, 0))
  (cond (Nat.beq ((r100l0b x6 x1 x2 x3 x4 x5 x6 x7).1) 1)
  (a100l0c x0 x1 x2 x3 x4 x5 x6 x7 (1, 0, 0, 0, 0, ((r100l0b x6 x1 x2 x3 x4 x5 x6 x7).2.2.2.1), ((r100l0b x6 x1 x2 x3 x4 x5 x6 x7).2.2.2.2)))
  none)))
  (cond (fgt .f32 x6 x1)
  (cond (Nat.beq ((r100l0b x0 x6 x2 x3 x4 x5 x6 x7).1) 0)
  (a100l0c x0 x1 x2 x3 x4 x5 x6 x7 (0, x0, x6, ((r100l0b x0 x6 x2 x3 x4 x5 x6 x7).2.1), ((r100l0b x0 x6 x2 x3 x4 x5 x6 x7).2.2.1), 0, 0))
  (cond (Nat.beq ((r100l0b x0 x6 x2 x3 x4 x5 x6 x7).1) 1)
  (a100l0c x0 x1 x2 x3 x4 x5 x6 x7 (1, 0, 0, 0, 0, ((r100l0b x0 x6 x2 x3 x4 x5 x6 x7).2.2.2.1), ((r100l0b x0 x6 x2 x3 x4 x5 x6 x7).2.2.2.2)))
  none))
  (cond (Nat.beq ((r100l0b x0 x1 x2 x3 x4 x5 x6 x7).1) 0)
  (a100l0c x0 x1 x2 x3 x4 x5 x6 x7 (0, x0, x1, ((r100l0b x0 x1 x2 x3 x4 x5 x6 x7).2.1), ((r100l0b x0 x1 x2 x3 x4 x5 x6 x7).2.2.1), 0, 0))
  (cond (Nat.beq ((r100l0b x0 x1 x2 x3 x4 x5 x6 x7).1) 1)
  (a100l0c x0 x1 x2 x3 x4 x5 x6 x7 (1, 0, 0, 0, 0, ((r100l0b x0 x1 x2 x3 x4 x5 x6 x7).2.2.2.1), ((r100l0b x0 x1 x2 x3 x4 x5 x6 x7).2.2.2.2)))
  none)))))
set_option maxRecDepth 100000 in
set_option maxHeartbeats 4000000 in
theorem e100l0c (x0 x1 x2 x3 x4 x5 x6 x7 : Nat) : evC Try.prog ext T29 L100_2 200 (loopN Try.f100 0) (loopTail ([4, 5, 6, 7, 8], []) [4, 6, 7] [] (sumK 63 [4, 5, 6, 7, 8] [4, 6, 7] Q100l0b)) (frameOf 63 [4, 5, 6, 7, 8] [.pointer (some ⟨0, 0, some 0⟩), .pointer (some ⟨1, 0, some 0⟩), .float .f32 x0, .float .f32 x1, .int .i64 2]) ⟨[⟨true, (some (.cells [.float .f32 x2, .float .f32 x3]))⟩, ⟨true, (some (.cells [.float .f32 x4, .float .f32 x5, .float .f32 x6, .float .f32 x7]))⟩], 2, []⟩ = firstT ([((Nat.beq ((r100l0c x0 x1 x2 x3 x4 x5 x6 x7).1) 0), .ret, [.pointer (some ⟨0, 0, some 0⟩), .float .f32 ((r100l0c x0 x1 x2 x3 x4 x5 x6 x7).2.1), .float .f32 ((r100l0c x0 x1 x2 x3 x4 x5 x6 x7).2.2.1)], ⟨[⟨true, (some (.cells [.float .f32 ((r100l0c x0 x1 x2 x3 x4 x5 x6 x7).2.2.2.1), .float .f32 ((r100l0c x0 x1 x2 x3 x4 x5 x6 x7).2.2.2.2.1)]))⟩, ⟨true, (some (.cells [.float .f32 x4, .float .f32 x5, .float .f32 x6, .float .f32 x7]))⟩], 2, [0]⟩), ((Nat.beq ((r100l0c x0 x1 x2 x3 x4 x5 x6 x7).1) 1), .exit 0, [.pointer (some ⟨0, 0, some 0⟩), .float .f32 ((r100l0c x0 x1 x2 x3 x4 x5 x6 x7).2.2.2.2.2.1), .float .f32 ((r100l0c x0 x1 x2 x3 x4 x5 x6 x7).2.2.2.2.2.2)], ⟨[⟨true, (some (.cells [.float .f32 x2, .float .f32 x3]))⟩, ⟨true, (some (.cells [.float .f32 x4, .float .f32 x5, .float .f32 x6, .float .f32 x7]))⟩], 2, [0]⟩)].map fun (b, x) => (b, (x.1, frameOf 63 [4, 6, 7] x.2.1, x.2.2))) :=
 (show evC Try.prog ext T29 L100_2 200 (loopN Try.f100 0) (loopTail ([4, 5, 6, 7, 8], []) [4, 6, 7] [] (sumK 63 [4, 5, 6, 7, 8] [4, 6, 7] Q100l0b)) (frameOf 63 [4, 5, 6, 7, 8] [.pointer (some ⟨0, 0, some 0⟩), .pointer (some ⟨1, 0, some 0⟩), .float .f32 x0, .float .f32 x1, .int .i64 2]) ⟨[⟨true, (some (.cells [.float .f32 x2, .float .f32 x3]))⟩, ⟨true, (some (.cells [.float .f32 x4, .float .f32 x5, .float .f32 x6, .float .f32 x7]))⟩], 2, []⟩ = w100l0c x0 x1 x2 x3 x4 x5 x6 x7 from by kernel_rfl).trans
 (show w100l0c x0 x1 x2 x3 x4 x5 x6 x7 = a100l0c x0 x1 x2 x3 x4 x5 x6 x7 (r100l0c x0 x1 x2 x3 x4 x5 x6 x7) from by unfold w100l0c r100l0c; exact (cond_app (a100l0c x0 x1 x2 x3 x4 x5 x6 x7) _ (cond_app (a100l0c x0 x1 x2 x3 x4 x5 x6 x7) _ (cond_app (a100l0c x0 x1 x2 x3 x4 x5 x6 x7) _ rfl rfl) rfl) (cond_app (a100l0c x0 x1 x2 x3 x4 x5 x6 x7) _ (cond_app (a100l0c x0 x1 x2 x3 x4 x5 x6 x7) _ (cond_app (a100l0c x0 x1 x2 x3 x4 x5 x6 x7) _ rfl (cond_app (a100l0c x0 x1 x2 x3 x4 x5 x6 x7) _ rfl rfl)) (cond_app (a100l0c x0 x1 x2 x3 x4 x5 x6 x7) _ rfl (cond_app (a100l0c x0 x1 x2 x3 x4 x5 x6 x7) _ rfl rfl))) (cond_app (a100l0c x0 x1 x2 x3 x4 x5 x6 x7) _ (cond_app (a100l0c x0 x1 x2 x3 x4 x5 x6 x7) _ rfl (cond_app (a100l0c x0 x1 x2 x3 x4 x5 x6 x7) _ rfl rfl)) (cond_app (a100l0c x0 x1 x2 x3 x4 x5 x6 x7) _ rfl (cond_app (a100l0c x0 x1 x2 x3 x4 x5 x6 x7) _ rfl rfl))))))
noncomputable def Q100l0c : SumK := fun vals s =>
 match vals, s.h with
 | [.pointer (some ⟨f0, f1, some f2⟩), .pointer (some ⟨f3, f4, some f5⟩), .float .f32 x0, .float .f32 x1, .int .i64 f6], [⟨true, some (.cells [.float .f32 x2, .float .f32 x3])⟩, ⟨true, some (.cells [.float .f32 x4, .float .f32 x5, .float .f32 x6, .float .f32 x7])⟩] => if f0 = 0 ∧ f1 = 0 ∧ f2 = 0 ∧ f3 = 1 ∧ f4 = 0 ∧ f5 = 0 ∧ f6 = 2 then [((Nat.beq ((r100l0c x0 x1 x2 x3 x4 x5 x6 x7).1) 0), .ret, [.pointer (some ⟨0, 0, some 0⟩), .float .f32 ((r100l0c x0 x1 x2 x3 x4 x5 x6 x7).2.1), .float .f32 ((r100l0c x0 x1 x2 x3 x4 x5 x6 x7).2.2.1)], ⟨[⟨true, (some (.cells [.float .f32 ((r100l0c x0 x1 x2 x3 x4 x5 x6 x7).2.2.2.1), .float .f32 ((r100l0c x0 x1 x2 x3 x4 x5 x6 x7).2.2.2.2.1)]))⟩, ⟨true, (some (.cells [.float .f32 x4, .float .f32 x5, .float .f32 x6, .float .f32 x7]))⟩], 2, [0]⟩), ((Nat.beq ((r100l0c x0 x1 x2 x3 x4 x5 x6 x7).1) 1), .exit 0, [.pointer (some ⟨0, 0, some 0⟩), .float .f32 ((r100l0c x0 x1 x2 x3 x4 x5 x6 x7).2.2.2.2.2.1), .float .f32 ((r100l0c x0 x1 x2 x3 x4 x5 x6 x7).2.2.2.2.2.2)], ⟨[⟨true, (some (.cells [.float .f32 x2, .float .f32 x3]))⟩, ⟨true, (some (.cells [.float .f32 x4, .float .f32 x5, .float .f32 x6, .float .f32 x7]))⟩], 2, [0]⟩)] else Q100l0b vals s
 | _, _ => Q100l0b vals s
set_option maxRecDepth 100000 in
set_option maxHeartbeats 4000000 in
theorem qok100l0c : SumKOk Try.prog (loopN Try.f100 0) 63 [4, 5, 6, 7, 8] [4, 6, 7] Q100l0c := by
  intro vals s x h1 h2 h3
  unfold Q100l0c at h3; split at h3
  · rename_i h; split at h3
    · rename_i hc; obtain ⟨rfl, rfl, rfl, rfl, rfl, rfl, rfl⟩ := hc; exact sum_step ok29 extOk mixed (lok100_2.inner (by kernel_rfl)) qok100l0b h1 h2 h (e100l0c _ _ _ _ _ _ _ _) rfl h3
    · exact qok100l0b _ _ _ h1 h2 h3
  · exact qok100l0b _ _ _ h1 h2 h3
noncomputable def L100_3 : LoopT := addL L100_2 6 ([4, 5, 6, 7, 8], []) (sumK 63 [4, 5, 6, 7, 8] [4, 6, 7] Q100l0c)
theorem lok100_3 : LfOkF Try.prog L100_3 Try.f100 := lfOkF_add lok100_2 qok100l0c (by kernel_rfl) (by kernel_rfl) (by kernel_rfl)

/-- spec.l05Mul, loop 0 -/
noncomputable def r100l0d (x0 x1 x2 x3 x4 x5 x6 x7 : Nat) : Nat × Nat × Nat × Nat × Nat × Nat × Nat :=
 cond (!feq .f32 x5 x5)
  (cond (narrowOk (r111 (-1)))
  (cond (narrowOk (r111 1))
  (0, x0, x1, (narrow (r111 (-1))), (narrow (r111 1)), 0, 0)
  (2, 0, 0, 0, 0, 0, 0))
  (2, 0, 0, 0, 0, 0, 0))
  (cond (flt .f32 x5 x0)
  (cond (fgt .f32 x5 x1)
  (cond (Nat.beq ((r100l0c x5 x5 x2 x3 x4 x5 x6 x7).1) 0)
  (0, ((r100l0c x5 x5 x2 x3 x4 x5 x6 x7).2.1), ((r100l0c x5 x5 x2 x3 x4 x5 x6 x7).2.2.1), ((r100l0c x5 x5 x2 x3 x4 x5 x6 x7).2.2.2.1), ((r100l0c x5 x5 x2 x3 x4 x5 x6 x7).2.2.2.2.1), 0, 0)
  (cond (Nat.beq ((r100l0c x5 x5 x2 x3 x4 x5 x6 x7).1) 1)
  (1, 0, 0, 0, 0, ((r100l0c x5 x5 x2 x3 x4 x5 x6 x7).2.2.2.2.2.1), ((r100l0c x5 x5 x2 x3 x4 x5 x6 x7).2.2.2.2.2.2))
  (2, 0, 0, 0, 0, 0, 0)))
  (cond (Nat.beq ((r100l0c x5 x1 x2 x3 x4 x5 x6 x7).1) 0)
  (0, ((r100l0c x5 x1 x2 x3 x4 x5 x6 x7).2.1), ((r100l0c x5 x1 x2 x3 x4 x5 x6 x7).2.2.1), ((r100l0c x5 x1 x2 x3 x4 x5 x6 x7).2.2.2.1), ((r100l0c x5 x1 x2 x3 x4 x5 x6 x7).2.2.2.2.1), 0, 0)
  (cond (Nat.beq ((r100l0c x5 x1 x2 x3 x4 x5 x6 x7).1) 1)
  (1, 0, 0, 0, 0, ((r100l0c x5 x1 x2 x3 x4 x5 x6 x7).2.2.2.2.2.1), ((r100l0c x5 x1 x2 x3 x4 x5 x6 x7).2.2.2.2.2.2))
  (2, 0, 0, 0, 0, 0, 0))))
  (cond (fgt .f32 x5 x1)
  (cond (Nat.beq ((r100l0c x0 x5 x2 x3 x4 x5 x6 x7).1) 0)
  (0, ((r100l0c x0 x5 x2 x3 x4 x5 x6 x7).2.1), ((r100l0c x0 x5 x2 x3 x4 x5 x6 x7).2.2.1), ((r100l0c x0 x5 x2 x3 x4 x5 x6 x7).2.2.2.1), ((r100l0c x0 x5 x2 x3 x4 x5 x6 x7).2.2.2.2.1), 0, 0)
  (cond (Nat.beq ((r100l0c x0 x5 x2 x3 x4 x5 x6 x7).1) 1)
  (1, 0, 0, 0, 0, ((r100l0c x0 x5 x2 x3 x4 x5 x6 x7).2.2.2.2.2.1), ((r100l0c x0 x5 x2 x3 x4 x5 x6 x7).2.2.2.2.2.2))
  (2, 0, 0, 0, 0, 0, 0)))
  (cond (Nat.beq ((r100l0c x0 x1 x2 x3 x4 x5 x6 x7).1) 0)
  (0, ((r100l0c x0 x1 x2 x3 x4 x5 x6 x7).2.1), ((r100l0c x0 x1 x2 x3 x4 x5 x6 x7).2.2.1), ((r100l0c x0 x1 x2 x3 x4 x5 x6 x7).2.2.2.1), ((r100l0c x0 x1 x2 x3 x4 x5 x6 x7).2.2.2.2.1), 0, 0)
  (cond (Nat.beq ((r100l0c x0 x1 x2 x3 x4 x5 x6 x7).1) 1)
  (1, 0, 0, 0, 0, ((r100l0c x0 x1 x2 x3 x4 x5 x6 x7).2.2.2.2.2.1), ((r100l0c x0 x1 x2 x3 x4 x5 x6 x7).2.2.2.2.2.2))
  (2, 0, 0, 0, 0, 0, 0)))))
noncomputable def a100l0d (x0 x1 x2 x3 x4 x5 x6 x7 : Nat) (p : Nat × Nat × Nat × Nat × Nat × Nat × Nat) : Option (Fin' × List Value × St) := firstT ([((Nat.beq (p.1) 0), .ret, [.pointer (some ⟨0, 0, some 0⟩), .float .f32 (p.2.1), .float .f32 (p.2.2.1)], ⟨[⟨true, (some (.cells [.float .f32 (p.2.2.2.1), .float .f32 (p.2.2.2.2.1)]))⟩, ⟨true, (some (.cells [.float .f32 x4, .float .f32 x5, .float .f32 x6, .float .f32 x7]))⟩], 2, [0]⟩), ((Nat.beq (p.1) 1), .exit 0, [.pointer (some ⟨0, 0, some 0⟩), .float .f32 (p.2.2.2.2.2.1), .float .f32 (p.2.2.2.2.2.2)], ⟨[⟨true, (some (.cells [.float .f32 x2, .float .f32 x3]))⟩, ⟨true, (some (.cells [.float .f32 x4, .float .f32 x5, .float .f32 x6, .float .f32 x7]))⟩], 2, [0]⟩)].map fun (b, x) => (b, (x.1, frameOf 63 [4, 6, 7] x.2.1, x.2.2)))
noncomputable def w100l0d (x0 x1 x2 x3 x4 x5 x6 x7 : Nat) : Option (Fin' × List Value × St) :=
 (cond (!feq .f32 x5 x5)
 (cond (narrowOk (r111 (-1)))
  (cond (narrowOk (r111 1))
  (a100l0d x0 x1 x2 x3 x4 x5 x6 x7 (0, x0, x1, (narrow (r111 (-1))), (narrow (r111 1)), 0, 0))
  none)
  none)
 (cond (flt .f32 x5 x0)
  (cond (fgt .f32 x5 x1)
  (cond (Nat.beq ((r100l0c x5 x5 x2 x3 x4 x5 x6 x7).1) 0)
  (a100l0d x0 x1 x2 x3 x4 x5 x6 x7 (0, ((r100l0c x5 x5 x2 x3 x4 x5 x6 x7).2.1), ((r100l0c x5 x5 x2 x3 x4 x5 x6 x7).2.2.1), ((r100l0c x5 x5 x2 x3 x4 x5 x6 x7).2.2.2.1), ((r100l0c x5 x5 x2 x3 x4 x5 x6 x7).2.2.2.2.1), 0, 0))
  (cond (Nat.beq ((r100l0c x5 x5 x2 x3 x4 x5 x6 x7).1) 1)
  (a100l0d x0 x1 x2 x3 x4 x5 x6 x7 (1, 0, 0, 0, 0, ((r100l0c x5 x5 x2 x3 x4 x5 x6 x7).2.2.2.2.2.1), ((r100l0c x5 x5 x2 x3 x4 x5 x6 x7).2.2.2.2.2.2)))
  none))
  (cond (Nat.beq ((r100l0c x5 x1 x2 x3 x4 x5 x6 x7).1) 0)
  (a100l0d x0 x1 x2 x3 x4 x5 x6 x7 (0, ((r100l0c x5 x1 x2 x3 x4 x5 x6 x7).2.1), ((r100l0c x5 x1 x2 x3 x4 x5 x6 x7).2.2.1), ((r100l0c x5 x1 x2 x3 x4 x5 x6 x7).2.2.2.1), ((r100l0c x5 x1 x2 x3 x4 x5 x6 x7).2.2.2.2.1), 0, 0))
  (cond (Nat.beq ((r100l0c x5 x1 x2 x3 x4 x5 x6 x7).1) 1)
  (a100l0d x0 x1 x2 x3 x4 x5 x6 x7 (1, 0, 0, 0, 0, ((r100l0c x5 x1 x2 x3 x4 x5 x6 x7).2.2.2.2.2.1), ((r100l0c x5 x1 x2 x3 x4 x5 x6 x7).2.2.2.2.2.2)))
  none)))
  (cond (fgt .f32 x5 x1)
  (cond (Nat.beq ((r100l0c x0 x5 x2 x3 x4 x5 x6 x7).1) 0)
  (a100l0d x0 x1 x2 x3 x4 x5 x6 x7 (0, ((r100l0c x0 x5 x2 x3 x4 x5 x6 x7).2.1), ((r100l0c x0 x5 x2 x3 x4 x5 x6 x7).2.2.1), ((r100l0c x0 x5 x2 x3 x4 x5 x6 x7).2.2.2.1), ((r100l0c x0 x5 x2 x3 x4 x5 x6 x7).2.2.2.2.1), 0, 0))
  (cond (Nat.beq ((r100l0c x0 x5 x2 x3 x4 x5 x6 x7).1) 1)
  (a100l0d x0 x1 x2 x3 x4 x5 x6 x7 (1, 0, 0, 0, 0, ((r100l0c x0 x5 x2 x3 x4 x5 x6 x7).2.2.2.2.2.1), ((r100l0c x0 x5 x2 x3 x4 x5 x6 x7).2.2.2.2.2.2)))
  none))
  (cond (Nat.beq ((r100l0c x0 x1 x2 x3 x4 x5 x6 x7).1) 0)
  (a100l0d x0 x1 x2 x3 x4 x5 x6 x7 (0, ((r100l0c x0 x1 x2 x3 x4 x5 x6 x7).2.1), ((r100l0c x0 x1 x2 x3 x4 x5 x6 x7).2.2.1), ((r100l0c x0 x1 x2 x3 x4 x5 x6 x7).2.2.2.1), ((r100l0c x0 x1 x2 x3 x4 x5 x6 x7).2.2.2.2.1), 0, 0))
  (cond (Nat.beq ((r100l0c x0 x1 x2 x3 x4 x5 x6 x7).1) 1)
  (a100l0d x0 x1 x2 x3 x4 x5 x6 x7 (1, 0, 0, 0, 0, ((r100l0c x0 x1 x2 x3 x4 x5 x6 x7).2.2.2.2.2.1), ((r100l0c x0 x1 x2 x3 x4 x5 x6 x7).2.2.2.2.2.2)))
  none)))))
set_option maxRecDepth 100000 in
set_option maxHeartbeats 4000000 in
theorem e100l0d (x0 x1 x2 x3 x4 x5 x6 x7 : Nat) : evC Try.prog ext T29 L100_3 200 (loopN Try.f100 0) (loopTail ([4, 5, 6, 7, 8], []) [4, 6, 7] [] (sumK 63 [4, 5, 6, 7, 8] [4, 6, 7] Q100l0c)) (frameOf 63 [4, 5, 6, 7, 8] [.pointer (some ⟨0, 0, some 0⟩), .pointer (some ⟨1, 0, some 0⟩), .float .f32 x0, .float .f32 x1, .int .i64 1]) ⟨[⟨true, (some (.cells [.float .f32 x2, .float .f32 x3]))⟩, ⟨true, (some (.cells [.float .f32 x4, .float .f32 x5, .float .f32 x6, .float .f32 x7]))⟩], 2, []⟩ = firstT ([((Nat.beq ((r100l0d x0 x1 x2 x3 x4 x5 x6 x7).1) 0), .ret, [.pointer (some ⟨0, 0, some 0⟩), .float .f32 ((r100l0d x0 x1 x2 x3 x4 x5 x6 x7).2.1), .float .f32 ((r100l0d x0 x1 x2 x3 x4 x5 x6 x7).2.2.1)], ⟨[⟨true, (some (.cells [.float .f32 ((r100l0d x0 x1 x2 x3 x4 x5 x6 x7).2.2.2.1), .float .f32 ((r100l0d x0 x1 x2 x3 x4 x5 x6 x7).2.2.2.2.1)]))⟩, ⟨true, (some (.cells [.float .f32 x4, .float .f32 x5, .float .f32 x6, .float .f32 x7]))⟩], 2, [0]⟩), ((Nat.beq ((r100l0d x0 x1 x2 x3 x4 x5 x6 x7).1) 1), .exit 0, [.pointer (some ⟨0, 0, some 0⟩), .float .f32 ((r100l0d x0 x1 x2 x3 x4 x5 x6 x7).2.2.2.2.2.1), .float .f32 ((r100l0d x0 x1 x2 x3 x4 x5 x6 x7).2.2.2.2.2.2)], ⟨[⟨true, (some (.cells [.float .f32 x2, .float .f32 x3]))⟩, ⟨true, (some (.cells [.float .f32 x4, .float .f32 x5, .float .f32 x6, .float .f32 x7]))⟩], 2, [0]⟩)].map fun (b, x) => (b, (x.1, frameOf 63 [4, 6, 7] x.2.1, x.2.2))) :=
 (show evC Try.prog ext T29 L100_3 200 (loopN Try.f100 0) (loopTail ([4, 5, 6, 7, 8], []) [4, 6, 7] [] (sumK 63 [4, 5, 6, 7, 8] [4, 6, 7] Q100l0c)) (frameOf 63 [4, 5, 6, 7, 8] [.pointer (some ⟨0, 0, some 0⟩), .pointer (some ⟨1, 0, some 0⟩), .float .f32 x0, .float .f32 x1, .int .i64 1]) ⟨[⟨true, (some (.cells [.float .f32 x2, .float .f32 x3]))⟩, ⟨true, (some (.cells [.float .f32 x4, .float .f32 x5, .float .f32 x6, .float .f32 x7]))⟩], 2, []⟩ = w100l0d x0 x1 x2 x3 x4 x5 x6 x7 from by kernel_rfl).trans
 (show w100l0d x0 x1 x2 x3 x4 x5 x6 x7 = a100l0d x0 x1 x2 x3 x4 x5 x6 x7 (r100l0d x0 x1 x2 x3 x4 x5 x6 x7) from by unfold w100l0d r100l0d; exact (cond_app (a100l0d x0 x1 x2 x3 x4 x5 x6 x7) _ (cond_app (a100l0d x0 x1 x2 x3 x4 x5 x6 x7) _ (cond_app (a100l0d x0 x1 x2 x3 x4 x5 x6 x7) _ rfl rfl) rfl) (cond_app (a100l0d x0 x1 x2 x3 x4 x5 x6 x7) _ (cond_app (a100l0d x0 x1 x2 x3 x4 x5 x6 x7) _ (cond_app (a100l0d x0 x1 x2 x3 x4 x5 x6 x7) _ rfl (cond_app (a100l0d x0 x1 x2 x3 x4 x5 x6 x7) _ rfl rfl)) (cond_app (a100l0d x0 x1 x2 x3 x4 x5 x6 x7) _ rfl (cond_app (a100l0d x0 x1 x2 x3 x4 x5 x6 x7) _ rfl rfl))) (cond_app (a100l0d x0 x1 x2 x3 x4 x5 x6 x7) _ (cond_app (a100l0d x0 x1 x2 x3 x4 x5 x6 x7) _ rfl (cond_app (a100l0d x0 x1 x2 x3 x4 x5 x6 x7) _ rfl rfl)) (cond_app (a100l0d x0 x1 x2 x3 x4 x5 x6 x7) _ rfl (cond_app (a100l0d x0 x1 x2 x3 x4 x5 x6 x7) _ rfl rfl))))))
noncomputable def Q100l0d : SumK := fun vals s =>
 match vals, s.h with
 | [.pointer (some ⟨f0, f1, some f2⟩), .pointer (some ⟨f3, f4, some f5⟩), .float .f32 x0, .float .f32 x1, .int .i64 f6], [⟨true, some (.cells [.float .f32 x2, .float .f32 x3])⟩, ⟨true, some (.cells [.float .f32 x4, .float .f32 x5, .float .f32 x6, .float .f32 x7])⟩] => if f0 = 0 ∧ f1 = 0 ∧ f2 = 0 ∧ f3 = 1 ∧ f4 = 0 ∧ f5 = 0 ∧ f6 = 1 then [((Nat.beq ((r100l0d x0 x1 x2 x3 x4 x5 x6 x7).1) 0), .ret, [.pointer (some ⟨0, 0, some 0⟩), .float .f32 ((r100l0d x0 x1 x2 x3 x4 x5 x6 x7).2.1), .float .f32 ((r100l0d x0 x1 x2 x3 x4 x5 x6 x7).2.2.1)], ⟨[⟨true, (some (.cells [.float .f32 ((r100l0d x0 x1 x2 x3 x4 x5 x6 x7).2.2.2.1), .float .f32 ((r100l0d x0 x1 x2 x3 x4 x5 x6 x7).2.2.2.2.1)]))⟩, ⟨true, (some (.cells [.float .f32 x4, .float .f32 x5, .float .f32 x6, .float .f32 x7]))⟩], 2, [0]⟩), ((Nat.beq ((r100l0d x0 x1 x2 x3 x4 x5 x6 x7).1) 1), .exit 0, [.pointer (some ⟨0, 0, some 0⟩), .float .f32 ((r100l0d x0 x1 x2 x3 x4 x5 x6 x7).2.2.2.2.2.1), .float .f32 ((r100l0d x0 x1 x2 x3 x4 x5 x6 x7).2.2.2.2.2.2)], ⟨[⟨true, (some (.cells [.float .f32 x2, .float .f32 x3]))⟩, ⟨true, (some (.cells [.float .f32 x4, .float .f32 x5, .float .f32 x6, .float .f32 x7]))⟩], 2, [0]⟩)] else Q100l0c vals s
 | _, _ => Q100l0c vals s
set_option maxRecDepth 100000 in
set_option maxHeartbeats 4000000 in
theorem qok100l0d : SumKOk Try.prog (loopN Try.f100 0) 63 [4, 5, 6, 7, 8] [4, 6, 7] Q100l0d := by
  intro vals s x h1 h2 h3
  unfold Q100l0d at h3; split at h3
  · rename_i h; split at h3
    · rename_i hc; obtain ⟨rfl, rfl, rfl, rfl, rfl, rfl, rfl⟩ := hc; exact sum_step ok29 extOk mixed (lok100_3.inner (by kernel_rfl)) qok100l0c h1 h2 h (e100l0d _ _ _ _ _ _ _ _) rfl h3
    · exact qok100l0c _ _ _ h1 h2 h3
  · exact qok100l0c _ _ _ h1 h2 h3
noncomputable def L100_4 : LoopT := addL L100_3 6 ([4, 5, 6, 7, 8], []) (sumK 63 [4, 5, 6, 7, 8] [4, 6, 7] Q100l0d)
theorem lok100_4 : LfOkF Try.prog L100_4 Try.f100 := lfOkF_add lok100_3 qok100l0d (by kernel_rfl) (by kernel_rfl) (by kernel_rfl)

/-- spec.l05Mul, loop 0 -/
noncomputable def r100l0e (x0 x1 x2 x3 x4 x5 x6 x7 : Nat) : Nat × Nat × Nat × Nat × Nat × Nat × Nat :=
 cond (!feq .f32 x4 x4)
  (cond (narrowOk (r111 (-1)))
  (cond (narrowOk (r111 1))
  (0, x0, x1, (narrow (r111 (-1))), (narrow (r111 1)), 0, 0)
  (2, 0, 0, 0, 0, 0, 0))
  (2, 0, 0, 0, 0, 0, 0))
  (cond (flt .f32 x4 x0)
  (cond (fgt .f32 x4 x1)
  (cond (Nat.beq ((r100l0d x4 x4 x2 x3 x4 x5 x6 x7).1) 0)
  (0, ((r100l0d x4 x4 x2 x3 x4 x5 x6 x7).2.1), ((r100l0d x4 x4 x2 x3 x4 x5 x6 x7).2.2.1), ((r100l0d x4 x4 x2 x3 x4 x5 x6 x7).2.2.2.1), ((r100l0d x4 x4 x2 x3 x4 x5 x6 x7).2.2.2.2.1), 0, 0)
  (cond (Nat.beq ((r100l0d x4 x4 x2 x3 x4 x5 x6 x7).1) 1)
  (1, 0, 0, 0, 0, ((r100l0d x4 x4 x2 x3 x4 x5 x6 x7).2.2.2.2.2.1), ((r100l0d x4 x4 x2 x3 x4 x5 x6 x7).2.2.2.2.2.2))
  (2, 0, 0, 0, 0, 0, 0)))
  (cond (Nat.beq ((r100l0d x4 x1 x2 x3 x4 x5 x6 x7).1) 0)
  (0, ((r100l0d x4 x1 x2 x3 x4 x5 x6 x7).2.1), ((r100l0d x4 x1 x2 x3 x4 x5 x6 x7).2.2.1), ((r100l0d x4 x1 x2 x3 x4 x5 x6 x7).2.2.2.1), ((r100l0d x4 x1 x2 x3 x4 x5 x6 x7).2.2.2.2.1), 0, 0)
  (cond (Nat.beq ((r100l0d x4 x1 x2 x3 x4 x5 x6 x7).1) 1)
  (1, 0, 0, 0, 0, ((r100l0d x4 x1 x2 x3 x4 x5 x6 x7).2.2.2.2.2.1), ((r100l0d x4 x1 x2 x3 x4 x5 x6 x7).2.2.2.2.2.2))
  (2, 0, 0, 0, 0, 0, 0))))
  (cond (fgt .f32 x4 x1)
  (cond (Nat.beq ((r100l0d x0 x4 x2 x3 x4 x5 x6 x7).1) 0)
  (0, ((r100l0d x0 x4 x2 x3 x4 x5 x6 x7).2.1), ((r100l0d x0 x4 x2 x3 x4 x5 x6 x7).2.2.1), ((r100l0d x0 x4 x2 x3 x4 x5 x6 x7).2.2.2.1), ((r100l0d x0 x4 x2 x3 x4 x5 x6 x7).2.2.2.2.1), 0, 0)
  (cond (Nat.beq ((r100l0d x0 x4 x2 x3 x4 x5 x6 x7).1) 1)
  (1, 0, 0, 0, 0, ((r100l0d x0 x4 x2 x3 x4 x5 x6 x7).2.2.2.2.2.1), ((r100l0d x0 x4 x2 x3 x4 x5 x6 x7).2.2.2.2.2.2))
  (2, 0, 0, 0, 0, 0, 0)))
  (cond (Nat.beq ((r100l0d x0 x1 x2 x3 x4 x5 x6 x7).1) 0)
  (0, ((r100l0d x0 x1 x2 x3 x4 x5 x6 x7).2.1), ((r100l0d x0 x1 x2 x3 x4 x5 x6 x7).2.2.1), ((r100l0d x0 x1 x2 x3 x4 x5 x6 x7).2.2.2.1), ((r100l0d x0 x1 x2 x3 x4 x5 x6 x7).2.2.2.2.1), 0, 0)
  (cond (Nat.beq ((r100l0d x0 x1 x2 x3 x4 x5 x6 x7).1) 1)
  (1, 0, 0, 0, 0, ((r100l0d x0 x1 x2 x3 x4 x5 x6 x7).2.2.2.2.2.1), ((r100l0d x0 x1 x2 x3 x4 x5 x6 x7).2.2.2.2.2.2))
  (2, 0, 0, 0, 0, 0, 0)))))
noncomputable def a100l0e (x0 x1 x2 x3 x4 x5 x6 x7 : Nat) (p : Nat × Nat × Nat × Nat × Nat × Nat × Nat) : Option (Fin' × List Value × St) := firstT ([((Nat.beq (p.1) 0), .ret, [.pointer (some ⟨0, 0, some 0⟩), .float .f32 (p.2.1), .float .f32 (p.2.2.1)], ⟨[⟨true, (some (.cells [.float .f32 (p.2.2.2.1), .float .f32 (p.2.2.2.2.1)]))⟩, ⟨true, (some (.cells [.float .f32 x4, .float .f32 x5, .float .f32 x6, .float .f32 x7]))⟩], 2, [0]⟩), ((Nat.beq (p.1) 1), .exit 0, [.pointer (some ⟨0, 0, some 0⟩), .float .f32 (p.2.2.2.2.2.1), .float .f32 (p.2.2.2.2.2.2)], ⟨[⟨true, (some (.cells [.float .f32 x2, .float .f32 x3]))⟩, ⟨true, (some (.cells [.float .f32 x4, .float .f32 x5, .float .f32 x6, .float .f32 x7]))⟩], 2, [0]⟩)].map fun (b, x) => (b, (x.1, frameOf 63 [4, 6, 7] x.2.1, x.2.2)))
noncomputable def w100l0e (x0 x1 x2 x3 x4 x5 x6 x7 : Nat) : Option (Fin' × List Value × St) :=
 (cond (!feq .f32 x4 x4)
 (cond (narrowOk (r111 (-1)))
  (cond (narrowOk (r111 1))
  (a100l0e x0 x1 x2 x3 x4 x5 x6 x7 (0, x0, x1, (narrow (r111 (-1))), (narrow (r111 1)), 0, 0))
  none)
  none)
 (cond (flt .f32 x4 x0)
  (cond (fgt .f32 x4 x1)
  (cond (Nat.beq ((r100l0d x4 x4 x2 x3 x4 x5 x6 x7).1) 0)
  (a100l0e x0 x1 x2 x3 x4 x5 x6 x7 (0, ((r100l0d x4 x4 x2 x3 x4 x5 x6 x7).2.1), ((r100l0d x4 x4 x2 x3 x4 x5 x6 x7).2.2.1), ((r100l0d x4 x4 x2 x3 x4 x5 x6 x7).2.2.2.1), ((r100l0d x4 x4 x2 x3 x4 x5 x6 x7).2.2.2.2.1), 0, 0))
  (cond (Nat.beq ((r100l0d x4 x4 x2 x3 x4 x5 x6 x7).1) 1)
  (a100l0e x0 x1 x2 x3 x4 x5 x6 x7 (1, 0, 0, 0, 0, ((r100l0d x4 x4 x2 x3 x4 x5 x6 x7).2.2.2.2.2.1), ((r100l0d x4 x4 x2 x3 x4 x5 x6 x7).2.2.2.2.2.2)))
  none))
  (cond (Nat.beq ((r100l0d x4 x1 x2 x3 x4 x5 x6 x7).1) 0)
  (a100l0e x0 x1 x2 x3 x4 x5 x6 x7 (0, ((r100l0d x4 x1 x2 x3 x4 x5 x6 x7).2.1), ((r100l0d x4 x1 x2 x3 x4 x5 x6 x7).2.2.1), ((r100l0d x4 x1 x2 x3 x4 x5 x6 x7).2.2.2.1), ((r100l0d x4 x1 x2 x3 x4 x5 x6 x7).2.2.2.2.1), 0, 0))
  (cond (Nat.beq ((r100l0d x4 x1 x2 x3 x4 x5 x6 x7).1) 1)
  (a100l0e x0 x1 x2 x3 x4 x5 x6 x7 (1, 0, 0, 0, 0, ((r100l0d x4 x1 x2 x3 x4 x5 x6 x7).2.2.2.2.2.1), ((r100l0d x4 x1 x2 x3 x4 x5 x6 x7).2.2.2.2.2.2)))
  none)))
  (cond (fgt .f32 x4 x1)
  (cond (Nat.beq ((r100l0d x0 x4 x2 x3 x4 x5 x6 x7).1) 0)
  (a100l0e x0 x1 x2 x3 x4 x5 x6 x7 (0, ((r100l0d x0 x4 x2 x3 x4 x5 x6 x7).2.1), ((r100l0d x0 x4 x2 x3 x4 x5 x6 x7).2.2.1), ((r100l0d x0 x4 x2 x3 x4 x5 x6 x7).2.2.2.1), ((r100l0d x0 x4 x2 x3 x4 x5 x6 x7).2.2.2.2.1), 0, 0))
  (cond (Nat.beq ((r100l0d x0 x4 x2 x3 x4 x5 x6 x7).1) 1)
  (a100l0e x0 x1 x2 x3 x4 x5 x6 x7 (1, 0, 0, 0, 0, ((r100l0d x0 x4 x2 x3 x4 x5 x6 x7).2.2.2.2.2.1), ((r100l0d x0 x4 x2 x3 x4 x5 x6 x7).2.2.2.2.2.2)))
  none))
  (cond (Nat.beq ((r100l0d x0 x1 x2 x3 x4 x5 x6 x7).1) 0)
  (a100l0e x0 x1 x2 x3 x4 x5 x6 x7 (0, ((r100l0d x0 x1 x2 x3 x4 x5 x6 x7).2.1), ((r100l0d x0 x1 x2 x3 x4 x5 x6 x7).2.2.1), ((r100l0d x0 x1 x2 x3 x4 x5 x6 x7).2.2.2.1), ((r100l0d x0 x1 x2 x3 x4 x5 x6 x7).2.2.2.2.1), 0, 0))
  (cond (Nat.beq ((r100l0d x0 x1 x2 x3 x4 x5 x6 x7).1) 1)
  (a100l0e x0 x1 x2 x3 x4 x5 x6 x7 (1, 0, 0, 0, 0, ((r100l0d x0 x1 x2 x3 x4 x5 x6 x7).2.2.2.2.2.1), ((r100l0d x0 x1 x2 x3 x4 x5 x6 x7).2.2.2.2.2.2)))
  none)))))
set_option maxRecDepth 100000 in
set_option maxHeartbeats 4000000 in
theorem e100l0e (x0 x1 x2 x3 x4 x5 x6 x7 : Nat) : evC Try.prog ext T29 L100_4 200 (loopN Try.f100 0) (loopTail ([4, 5, 6, 7, 8], []) [4, 6, 7] [] (sumK 63 [4, 5, 6, 7, 8] [4, 6, 7] Q100l0d)) (frameOf 63 [4, 5, 6, 7, 8] [.pointer (some ⟨0, 0, some 0⟩), .pointer (some ⟨1, 0, some 0⟩), .float .f32 x0, .float .f32 x1, .int .i64 0]) ⟨[⟨true, (some (.cells [.float .f32 x2, .float .f32 x3]))⟩, ⟨true, (some (.cells [.float .f32 x4, .float .f32 x5, .float .f32 x6, .float .f32 x7]))⟩], 2, []⟩ = firstT ([((Nat.beq ((r100l0e x0 x1 x2 x3 x4 x5 x6 x7).1) 0), .ret, [.pointer (some ⟨0, 0, some 0⟩), .float .f32 ((r100l0e x0 x1 x2 x3 x4 x5 x6 x7).2.1), .float .f32 ((r100l0e x0 x1 x2 x3 x4 x5 x6 x7).2.2.1)], ⟨[⟨true, (some (.cells [.float .f32 ((r100l0e x0 x1 x2 x3 x4 x5 x6 x7).2.2.2.1), .float .f32 ((r100l0e x0 x1 x2 x3 x4 x5 x6 x7).2.2.2.2.1)]))⟩, ⟨true, (some (.cells [.float .f32 x4, .float .f32 x5, .float .f32 x6, .float .f32 x7]))⟩], 2, [0]⟩), ((Nat.beq ((r100l0e x0 x1 x2 x3 x4 x5 x6 x7).1) 1), .exit 0, [.pointer (some ⟨0, 0, some 0⟩), .float .f32 ((r100l0e x0 x1 x2 x3 x4 x5 x6 x7).2.2.2.2.2.1), .float .f32 ((r100l0e x0 x1 x2 x3 x4 x5 x6 x7).2.2.2.2.2.2)], ⟨[⟨true, (some (.cells [.float .f32 x2, .float .f32 x3]))⟩, ⟨true, (some (.cells [.float .f32 x4, .float .f32 x5, .float .f32 x6, .float .f32 x7]))⟩], 2, [0]⟩)].map fun (b, x) => (b, (x.1, frameOf 63 [4, 6, 7] x.2.1, x.2.2))) :=
 (show evC Try.prog ext T29 L100_4 200 (loopN Try.f100 0) (loopTail ([4, 5, 6, 7, 8], []) [4, 6, 7] [] (sumK 63 [4, 5, 6, 7, 8] [4, 6, 7] Q100l0d)) (frameOf 63 [4, 5, 6, 7, 8] [.pointer (some ⟨0, 0, some 0⟩), .pointer (some ⟨1, 0, some 0⟩), .float .f32 x0, .float .f32 x1, .int .i64 0]) ⟨[⟨true, (some (.cells [.float .f32 x2, .float .f32 x3]))⟩, ⟨true, (some (.cells [.float .f32 x4, .float .f32 x5, .float .f32 x6, .float .f32 x7]))⟩], 2, []⟩ = w100l0e x0 x1 x2 x3 x4 x5 x6 x7 from by kernel_rfl).trans
 (show w100l0e x0 x1 x2 x3 x4 x5 x6 x7 = a100l0e x0 x1 x2 x3 x4 x5 x6 x7 (r100l0e x0 x1 x2 x3 x4 x5 x6 x7) from by unfold w100l0e r100l0e; exact (cond_app (a100l0e x0 x1 x2 x3 x4 x5 x6 x7) _ (cond_app (a100l0e x0 x1 x2 x3 x4 x5 x6 x7) _ (cond_app (a100l0e x0 x1 x2 x3 x4 x5 x6 x7) _ rfl rfl) rfl) (cond_app (a100l0e x0 x1 x2 x3 x4 x5 x6 x7) _ (cond_app (a100l0e x0 x1 x2 x3 x4 x5 x6 x7) _ (cond_app (a100l0e x0 x1 x2 x3 x4 x5 x6 x7) _ rfl (cond_app (a100l0e x0 x1 x2 x3 x4 x5 x6 x7) _ rfl rfl)) (cond_app (a100l0e x0 x1 x2 x3 x4 x5 x6 x7) _ rfl (cond_app (a100l0e x0 x1 x2 x3 x4 x5 x6 x7) _ rfl rfl))) (cond_app (a100l0e x0 x1 x2 x3 x4 x5 x6 x7) _ (cond_app (a100l0e x0 x1 x2 x3 x4 x5 x6 x7) _ rfl (cond_app (a100l0e x0 x1 x2 x3 x4 x5 x6 x7) _ rfl rfl)) (cond_app (a100l0e x0 x1 x2 x3 x4 x5 x6 x7) _ rfl (cond_app (a100l0e x0 x1 x2 x3 x4 x5 x6 x7) _ rfl rfl))))))
noncomputable def Q100l0e : SumK := fun vals s =>
 match vals, s.h with
 | [.pointer (some ⟨f0, f1, some f2⟩), .pointer (some ⟨f3, f4, some f5⟩), .float .f32 x0, .float .f32 x1, .int .i64 f6], [⟨true, some (.cells [.float .f32 x2, .float .f32 x3])⟩, ⟨true, some (.cells [.float .f32 x4, .float .f32 x5, .float .f32 x6, .float .f32 x7])⟩] => if f0 = 0 ∧ f1 = 0 ∧ f2 = 0 ∧ f3 = 1 ∧ f4 = 0 ∧ f5 = 0 ∧ f6 = 0 then [((Nat.beq ((r100l0e x0 x1 x2 x3 x4 x5 x6 x7).1) 0), .ret, [.pointer (some ⟨0, 0, some 0⟩), .float .f32 ((r100l0e x0 x1 x2 x3 x4 x5 x6 x7).2.1), .float .f32 ((r100l0e x0 x1 x2 x3 x4 x5 x6 x7).2.2.1)], ⟨[⟨true, (some (.cells [.float .f32 ((r100l0e x0 x1 x2 x3 x4 x5 x6 x7).2.2.2.1), .float .f32 ((r100l0e x0 x1 x2 x3 x4 x5 x6 x7).2.2.2.2.1)]))⟩, ⟨true, (some (.cells [.float .f32 x4, .float .f32 x5, .float .f32 x6, .float .f32 x7]))⟩], 2, [0]⟩), ((Nat.beq ((r100l0e x0 x1 x2 x3 x4 x5 x6 x7).1) 1), .exit 0, [.pointer (some ⟨0, 0, some 0⟩), .float .f32 ((r100l0e x0 x1 x2 x3 x4 x5 x6 x7).2.2.2.2.2.1), .float .f32 ((r100l0e x0 x1 x2 x3 x4 x5 x6 x7).2.2.2.2.2.2)], ⟨[⟨true, (some (.cells [.float .f32 x2, .float .f32 x3]))⟩, ⟨true, (some (.cells [.float .f32 x4, .float .f32 x5, .float .f32 x6, .float .f32 x7]))⟩], 2, [0]⟩)] else Q100l0d vals s
 | _, _ => Q100l0d vals s
set_option maxRecDepth 100000 in
set_option maxHeartbeats 4000000 in
theorem qok100l0e : SumKOk Try.prog (loopN Try.f100 0) 63 [4, 5, 6, 7, 8] [4, 6, 7] Q100l0e := by
  intro vals s x h1 h2 h3
  unfold Q100l0e at h3; split at h3
  · rename_i h; split at h3
    · rename_i hc; obtain ⟨rfl, rfl, rfl, rfl, rfl, rfl, rfl⟩ := hc; exact sum_step ok29 extOk mixed (lok100_4.inner (by kernel_rfl)) qok100l0d h1 h2 h (e100l0e _ _ _ _ _ _ _ _) rfl h3
    · exact qok100l0d _ _ _ h1 h2 h3
  · exact qok100l0d _ _ _ h1 h2 h3
noncomputable def L100_5 : LoopT := addL L100_4 6 ([4, 5, 6, 7, 8], []) (sumK 63 [4, 5, 6, 7, 8] [4, 6, 7] Q100l0e)
theorem lok100_5 : LfOkF Try.prog L100_5 Try.f100 := lfOkF_add lok100_4 qok100l0e (by kernel_rfl) (by kernel_rfl) (by kernel_rfl)

/-- spec.l05Mul -/
noncomputable def r100 (x0 x1 x2 x3 : Nat) : Nat × Nat × Nat :=
 let c4 := (r112 ((r100l0e (fmul .f32 x0 x2) (fmul .f32 x0 x2) 0 0 (fmul .f32 x0 x2) (fmul .f32 x0 x3) (fmul .f32 x1 x2) (fmul .f32 x1 x3)).2.2.2.2.2.1))
 let c5 := (r113 ((r100l0e (fmul .f32 x0 x2) (fmul .f32 x0 x2) 0 0 (fmul .f32 x0 x2) (fmul .f32 x0 x3) (fmul .f32 x1 x2) (fmul .f32 x1 x3)).2.2.2.2.2.2))
 cond (Nat.beq ((r100l0e (fmul .f32 x0 x2) (fmul .f32 x0 x2) 0 0 (fmul .f32 x0 x2) (fmul .f32 x0 x3) (fmul .f32 x1 x2) (fmul .f32 x1 x3)).1) 0)
  (0, ((r100l0e (fmul .f32 x0 x2) (fmul .f32 x0 x2) 0 0 (fmul .f32 x0 x2) (fmul .f32 x0 x3) (fmul .f32 x1 x2) (fmul .f32 x1 x3)).2.2.2.1), ((r100l0e (fmul .f32 x0 x2) (fmul .f32 x0 x2) 0 0 (fmul .f32 x0 x2) (fmul .f32 x0 x3) (fmul .f32 x1 x2) (fmul .f32 x1 x3)).2.2.2.2.1))
  (cond (Nat.beq ((r100l0e (fmul .f32 x0 x2) (fmul .f32 x0 x2) 0 0 (fmul .f32 x0 x2) (fmul .f32 x0 x3) (fmul .f32 x1 x2) (fmul .f32 x1 x3)).1) 1)
  (0, c4, c5)
  (1, 0, 0))
noncomputable def a100 (x0 x1 x2 x3 : Nat) (p : Nat × Nat × Nat) : Res := firstT [((Nat.beq (p.1) 0), .agg #[.float .f32 (p.2.1), .float .f32 (p.2.2)], st0)]
noncomputable def w100 (x0 x1 x2 x3 : Nat) : Res :=
 let c4 := (r112 ((r100l0e (fmul .f32 x0 x2) (fmul .f32 x0 x2) 0 0 (fmul .f32 x0 x2) (fmul .f32 x0 x3) (fmul .f32 x1 x2) (fmul .f32 x1 x3)).2.2.2.2.2.1))
 let c5 := (r113 ((r100l0e (fmul .f32 x0 x2) (fmul .f32 x0 x2) 0 0 (fmul .f32 x0 x2) (fmul .f32 x0 x3) (fmul .f32 x1 x2) (fmul .f32 x1 x3)).2.2.2.2.2.2))
 (cond (Nat.beq ((r100l0e (fmul .f32 x0 x2) (fmul .f32 x0 x2) 0 0 (fmul .f32 x0 x2) (fmul .f32 x0 x3) (fmul .f32 x1 x2) (fmul .f32 x1 x3)).1) 0)
 (a100 x0 x1 x2 x3 (0, ((r100l0e (fmul .f32 x0 x2) (fmul .f32 x0 x2) 0 0 (fmul .f32 x0 x2) (fmul .f32 x0 x3) (fmul .f32 x1 x2) (fmul .f32 x1 x3)).2.2.2.1), ((r100l0e (fmul .f32 x0 x2) (fmul .f32 x0 x2) 0 0 (fmul .f32 x0 x2) (fmul .f32 x0 x3) (fmul .f32 x1 x2) (fmul .f32 x1 x3)).2.2.2.2.1)))
 (cond (Nat.beq ((r100l0e (fmul .f32 x0 x2) (fmul .f32 x0 x2) 0 0 (fmul .f32 x0 x2) (fmul .f32 x0 x3) (fmul .f32 x1 x2) (fmul .f32 x1 x3)).1) 1)
  (a100 x0 x1 x2 x3 (0, c4, c5))
  none))
set_option maxRecDepth 100000 in
set_option maxHeartbeats 4000000 in
theorem e100 (x0 x1 x2 x3 : Nat) : evFn Try.prog ext T29 L100_5 200 Try.f100 [.agg #[.float .f32 x0, .float .f32 x1], .agg #[.float .f32 x2, .float .f32 x3]] st0 = firstT [((Nat.beq ((r100 x0 x1 x2 x3).1) 0), .agg #[.float .f32 ((r100 x0 x1 x2 x3).2.1), .float .f32 ((r100 x0 x1 x2 x3).2.2)], st0)] :=
 (show evFn Try.prog ext T29 L100_5 200 Try.f100 [.agg #[.float .f32 x0, .float .f32 x1], .agg #[.float .f32 x2, .float .f32 x3]] st0 = w100 x0 x1 x2 x3 from by kernel_rfl).trans
 (show w100 x0 x1 x2 x3 = a100 x0 x1 x2 x3 (r100 x0 x1 x2 x3) from by unfold w100 r100; exact (cond_app (a100 x0 x1 x2 x3) _ rfl (cond_app (a100 x0 x1 x2 x3) _ rfl rfl)))
noncomputable def s100 (args : List Value) (s : St) : List (Bool × Value × St) :=
 match args, s.h with
 | [.agg ⟨[.float .f32 x0, .float .f32 x1]⟩, .agg ⟨[.float .f32 x2, .float .f32 x3]⟩], [] => [((Nat.beq ((r100 x0 x1 x2 x3).1) 0), .agg #[.float .f32 ((r100 x0 x1 x2 x3).2.1), .float .f32 ((r100 x0 x1 x2 x3).2.2)], st0)]
 | _, _ => T29 100 args s
noncomputable def T30 : CallF := addF T29 100 s100
set_option maxRecDepth 100000 in
set_option maxHeartbeats 4000000 in
theorem ok30 : CfOk Try.prog T30 := by
  refine cfOk_add ok29 fun args s r s' h1 h2 h3 => ?_
  unfold s100 at h3; split at h3
  · rename_i h; exact callOk ok29 Try.func100 h1 h2 h lok100_5.body (e100 _ _ _ _) rfl h3
  · exact ok29 _ _ _ _ _ h1 h2 h3

/-- spec.l01Less -/
noncomputable def r93 (x0 x1 : Nat) : Nat :=
 cond (flt .f32 x1 x0)
  (x1)
  (x0)
noncomputable def a93 (x0 x1 : Nat) (p : Nat) : Res := firstT [(true, .float .f32 p, st0)]
noncomputable def w93 (x0 x1 : Nat) : Res :=
 (cond (flt .f32 x1 x0)
 (a93 x0 x1 (x1))
 (a93 x0 x1 (x0)))
set_option maxRecDepth 100000 in
set_option maxHeartbeats 4000000 in
theorem e93 (x0 x1 : Nat) : evFn Try.prog ext T30 noL 200 Try.f93 [.float .f32 x0, .float .f32 x1] st0 = firstT [(true, .float .f32 (r93 x0 x1), st0)] :=
 (show evFn Try.prog ext T30 noL 200 Try.f93 [.float .f32 x0, .float .f32 x1] st0 = w93 x0 x1 from by kernel_rfl).trans
 (show w93 x0 x1 = a93 x0 x1 (r93 x0 x1) from by unfold w93 r93; exact (cond_app (a93 x0 x1) _ rfl rfl))
noncomputable def s93 (args : List Value) (s : St) : List (Bool × Value × St) :=
 match args, s.h with
 | [.float .f32 x0, .float .f32 x1], [] => [(true, .float .f32 (r93 x0 x1), st0)]
 | _, _ => T30 93 args s
noncomputable def T31 : CallF := addF T30 93 s93
set_option maxRecDepth 100000 in
set_option maxHeartbeats 4000000 in
theorem ok31 : CfOk Try.prog T31 := by
  refine cfOk_add ok30 fun args s r s' h1 h2 h3 => ?_
  unfold s93 at h3; split at h3
  · rename_i h; exact callOk ok30 Try.func93 h1 h2 h (lfOkF_no _ _).body (e93 _ _) rfl h3
  · exact ok30 _ _ _ _ _ h1 h2 h3

/-- spec.l05Greater -/
noncomputable def r94 (x0 x1 : Nat) : Nat :=
 cond (fgt .f32 x1 x0)
  (x1)
  (x0)
noncomputable def a94 (x0 x1 : Nat) (p : Nat) : Res := firstT [(true, .float .f32 p, st0)]
noncomputable def w94 (x0 x1 : Nat) : Res :=
 (cond (fgt .f32 x1 x0)
 (a94 x0 x1 (x1))
 (a94 x0 x1 (x0)))
set_option maxRecDepth 100000 in
set_option maxHeartbeats 4000000 in
theorem e94 (x0 x1 : Nat) : evFn Try.prog ext T31 noL 200 Try.f94 [.float .f32 x0, .float .f32 x1] st0 = firstT [(true, .float .f32 (r94 x0 x1), st0)] :=
 (show evFn Try.prog ext T31 noL 200 Try.f94 [.float .f32 x0, .float .f32 x1] st0 = w94 x0 x1 from by kernel_rfl).trans
 (show w94 x0 x1 = a94 x0 x1 (r94 x0 x1) from by unfold w94 r94; exact (cond_app (a94 x0 x1) _ rfl rfl))
noncomputable def s94 (args : List Value) (s : St) : List (Bool × Value × St) :=
 match args, s.h with
 | [.float .f32 x0, .float .f32 x1], [] => [(true, .float .f32 (r94 x0 x1), st0)]
 | _, _ => T31 94 args s
noncomputable def T32 : CallF := addF T31 94 s94
set_option maxRecDepth 100000 in
set_option maxHeartbeats 4000000 in
theorem ok32 : CfOk Try.prog T32 := by
  refine cfOk_add ok31 fun args s r s' h1 h2 h3 => ?_
  unfold s94 at h3; split at h3
  · rename_i h; exact callOk ok31 Try.func94 h1 h2 h (lfOkF_no _ _).body (e94 _ _) rfl h3
  · exact ok31 _ _ _ _ _ h1 h2 h3

/-- spec.l05Less -/
noncomputable def r101 (x0 x1 x2 x3 : Nat) : Nat × Nat :=
 cond (flt .f32 x1 x2)
  (1065353216, 1065353216)
  (cond (fgt .f32 x0 x3 || feq .f32 x0 x3)
  (0, 0)
  (0, 1065353216))
noncomputable def a101 (x0 x1 x2 x3 : Nat) (p : Nat × Nat) : Res := firstT [(true, .agg #[.float .f32 (p.1), .float .f32 (p.2)], st0)]
noncomputable def w101 (x0 x1 x2 x3 : Nat) : Res :=
 (cond (flt .f32 x1 x2)
 (a101 x0 x1 x2 x3 (1065353216, 1065353216))
 (cond (fgt .f32 x0 x3 || feq .f32 x0 x3)
  (a101 x0 x1 x2 x3 (0, 0))
  (a101 x0 x1 x2 x3 (0, 1065353216))))
set_option maxRecDepth 100000 in
set_option maxHeartbeats 4000000 in
theorem e101 (x0 x1 x2 x3 : Nat) : evFn Try.prog ext T32 noL 200 Try.f101 [.agg #[.float .f32 x0, .float .f32 x1], .agg #[.float .f32 x2, .float .f32 x3]] st0 = firstT [(true, .agg #[.float .f32 ((r101 x0 x1 x2 x3).1), .float .f32 ((r101 x0 x1 x2 x3).2)], st0)] :=
 (show evFn Try.prog ext T32 noL 200 Try.f101 [.agg #[.float .f32 x0, .float .f32 x1], .agg #[.float .f32 x2, .float .f32 x3]] st0 = w101 x0 x1 x2 x3 from by kernel_rfl).trans
 (show w101 x0 x1 x2 x3 = a101 x0 x1 x2 x3 (r101 x0 x1 x2 x3) from by unfold w101 r101; exact (cond_app (a101 x0 x1 x2 x3) _ rfl (cond_app (a101 x0 x1 x2 x3) _ rfl rfl)))
noncomputable def s101 (args : List Value) (s : St) : List (Bool × Value × St) :=
 match args, s.h with
 | [.agg ⟨[.float .f32 x0, .float .f32 x1]⟩, .agg ⟨[.float .f32 x2, .float .f32 x3]⟩], [] => [(true, .agg #[.float .f32 ((r101 x0 x1 x2 x3).1), .float .f32 ((r101 x0 x1 x2 x3).2)], st0)]
 | _, _ => T32 101 args s
noncomputable def T33 : CallF := addF T32 101 s101
set_option maxRecDepth 100000 in
set_option maxHeartbeats 4000000 in
theorem ok33 : CfOk Try.prog T33 := by
  refine cfOk_add ok32 fun args s r s' h1 h2 h3 => ?_
  unfold s101 at h3; split at h3
  · rename_i h; exact callOk ok32 Try.func101 h1 h2 h (lfOkF_no _ _).body (e101 _ _ _ _) rfl h3
  · exact ok32 _ _ _ _ _ h1 h2 h3

/-- spec.l05Over -/
noncomputable def r87 (x0 : Int) (x1 x2 x3 x4 : Nat) : Nat × Nat × Nat :=
 cond ((x0 : Int) == 5)
  (cond (Nat.beq ((r98 x1 x2 x3 x4).1) 0)
  (0, ((r98 x1 x2 x3 x4).2.1), ((r98 x1 x2 x3 x4).2.2))
  (1, 0, 0))
  (cond ((x0 : Int) == 6)
  (cond (Nat.beq ((r99 x1 x2 x3 x4).1) 0)
  (0, ((r99 x1 x2 x3 x4).2.1), ((r99 x1 x2 x3 x4).2.2))
  (1, 0, 0))
  (cond ((x0 : Int) == 7)
  (cond (Nat.beq ((r100 x1 x2 x3 x4).1) 0)
  (0, ((r100 x1 x2 x3 x4).2.1), ((r100 x1 x2 x3 x4).2.2))
  (1, 0, 0))
  (cond ((x0 : Int) == 9)
  (0, (r93 x1 x3), (r93 x2 x4))
  (cond ((x0 : Int) == 10)
  (0, (r94 x1 x3), (r94 x2 x4))
  (0, ((r101 x1 x2 x3 x4).1), ((r101 x1 x2 x3 x4).2))))))
noncomputable def a87 (x0 : Int) (x1 x2 x3 x4 : Nat) (p : Nat × Nat × Nat) : Res := firstT [((Nat.beq (p.1) 0), .agg #[.float .f32 (p.2.1), .float .f32 (p.2.2)], st0)]
noncomputable def w87 (x0 : Int) (x1 x2 x3 x4 : Nat) : Res :=
 (cond ((x0 : Int) == 5)
 (cond (Nat.beq ((r98 x1 x2 x3 x4).1) 0)
  (a87 x0 x1 x2 x3 x4 (0, ((r98 x1 x2 x3 x4).2.1), ((r98 x1 x2 x3 x4).2.2)))
  none)
 (cond ((x0 : Int) == 6)
  (cond (Nat.beq ((r99 x1 x2 x3 x4).1) 0)
  (a87 x0 x1 x2 x3 x4 (0, ((r99 x1 x2 x3 x4).2.1), ((r99 x1 x2 x3 x4).2.2)))
  none)
  (cond ((x0 : Int) == 7)
  (cond (Nat.beq ((r100 x1 x2 x3 x4).1) 0)
  (a87 x0 x1 x2 x3 x4 (0, ((r100 x1 x2 x3 x4).2.1), ((r100 x1 x2 x3 x4).2.2)))
  none)
  (cond ((x0 : Int) == 9)
  (a87 x0 x1 x2 x3 x4 (0, (r93 x1 x3), (r93 x2 x4)))
  (cond ((x0 : Int) == 10)
  (a87 x0 x1 x2 x3 x4 (0, (r94 x1 x3), (r94 x2 x4)))
  (a87 x0 x1 x2 x3 x4 (0, ((r101 x1 x2 x3 x4).1), ((r101 x1 x2 x3 x4).2))))))))
set_option maxRecDepth 100000 in
set_option maxHeartbeats 4000000 in
theorem e87 (x0 : Int) (x1 x2 x3 x4 : Nat) : evFn Try.prog ext T33 noL 200 Try.f87 [.int .i8 x0, .agg #[.float .f32 x1, .float .f32 x2], .agg #[.float .f32 x3, .float .f32 x4]] st0 = firstT [((Nat.beq ((r87 x0 x1 x2 x3 x4).1) 0), .agg #[.float .f32 ((r87 x0 x1 x2 x3 x4).2.1), .float .f32 ((r87 x0 x1 x2 x3 x4).2.2)], st0)] :=
 (show evFn Try.prog ext T33 noL 200 Try.f87 [.int .i8 x0, .agg #[.float .f32 x1, .float .f32 x2], .agg #[.float .f32 x3, .float .f32 x4]] st0 = w87 x0 x1 x2 x3 x4 from by kernel_rfl).trans
 (show w87 x0 x1 x2 x3 x4 = a87 x0 x1 x2 x3 x4 (r87 x0 x1 x2 x3 x4) from by unfold w87 r87; exact (cond_app (a87 x0 x1 x2 x3 x4) _ (cond_app (a87 x0 x1 x2 x3 x4) _ rfl rfl) (cond_app (a87 x0 x1 x2 x3 x4) _ (cond_app (a87 x0 x1 x2 x3 x4) _ rfl rfl) (cond_app (a87 x0 x1 x2 x3 x4) _ (cond_app (a87 x0 x1 x2 x3 x4) _ rfl rfl) (cond_app (a87 x0 x1 x2 x3 x4) _ rfl (cond_app (a87 x0 x1 x2 x3 x4) _ rfl rfl))))))
noncomputable def s87 (args : List Value) (s : St) : List (Bool × Value × St) :=
 match args, s.h with
 | [.int .i8 x0, .agg ⟨[.float .f32 x1, .float .f32 x2]⟩, .agg ⟨[.float .f32 x3, .float .f32 x4]⟩], [] => [((Nat.beq ((r87 x0 x1 x2 x3 x4).1) 0), .agg #[.float .f32 ((r87 x0 x1 x2 x3 x4).2.1), .float .f32 ((r87 x0 x1 x2 x3 x4).2.2)], st0)]
 | _, _ => T33 87 args s
noncomputable def T34 : CallF := addF T33 87 s87
set_option maxRecDepth 100000 in
set_option maxHeartbeats 4000000 in
theorem ok34 : CfOk Try.prog T34 := by
  refine cfOk_add ok33 fun args s r s' h1 h2 h3 => ?_
  unfold s87 at h3; split at h3
  · rename_i h; exact callOk ok33 Try.func87 h1 h2 h (lfOkF_no _ _).body (e87 _ _ _ _ _) rfl h3
  · exact ok33 _ _ _ _ _ h1 h2 h3

/-- spec.l05Join -/
noncomputable def r97 (x0 x1 x2 x3 : Nat) : Nat × Nat :=
 ((r93 x0 x2), (r94 x1 x3))
noncomputable def a97 (x0 x1 x2 x3 : Nat) (p : Nat × Nat) : Res := firstT [(true, .agg #[.float .f32 (p.1), .float .f32 (p.2)], st0)]
noncomputable def w97 (x0 x1 x2 x3 : Nat) : Res :=
 (a97 x0 x1 x2 x3 ((r93 x0 x2), (r94 x1 x3)))
set_option maxRecDepth 100000 in
set_option maxHeartbeats 4000000 in
theorem e97 (x0 x1 x2 x3 : Nat) : evFn Try.prog ext T34 noL 200 Try.f97 [.agg #[.float .f32 x0, .float .f32 x1], .agg #[.float .f32 x2, .float .f32 x3]] st0 = firstT [(true, .agg #[.float .f32 ((r97 x0 x1 x2 x3).1), .float .f32 ((r97 x0 x1 x2 x3).2)], st0)] :=
 (show evFn Try.prog ext T34 noL 200 Try.f97 [.agg #[.float .f32 x0, .float .f32 x1], .agg #[.float .f32 x2, .float .f32 x3]] st0 = w97 x0 x1 x2 x3 from by kernel_rfl).trans
 (show w97 x0 x1 x2 x3 = a97 x0 x1 x2 x3 (r97 x0 x1 x2 x3) from by unfold w97 r97; exact rfl)
noncomputable def s97 (args : List Value) (s : St) : List (Bool × Value × St) :=
 match args, s.h with
 | [.agg ⟨[.float .f32 x0, .float .f32 x1]⟩, .agg ⟨[.float .f32 x2, .float .f32 x3]⟩], [] => [(true, .agg #[.float .f32 ((r97 x0 x1 x2 x3).1), .float .f32 ((r97 x0 x1 x2 x3).2)], st0)]
 | _, _ => T34 97 args s
noncomputable def T35 : CallF := addF T34 97 s97
set_option maxRecDepth 100000 in
set_option maxHeartbeats 4000000 in
theorem ok35 : CfOk Try.prog T35 := by
  refine cfOk_add ok34 fun args s r s' h1 h2 h3 => ?_
  unfold s97 at h3; split at h3
  · rename_i h; exact callOk ok34 Try.func97 h1 h2 h (lfOkF_no _ _).body (e97 _ _ _ _) rfl h3
  · exact ok34 _ _ _ _ _ h1 h2 h3

/-- spec.l05Chosen -/
noncomputable def r86 (x0 x1 x2 x3 x4 x5 : Nat) : Nat × Nat :=
 cond (fgt .f32 x0 0)
  (x2, x3)
  (cond (flt .f32 x1 0 || feq .f32 x1 0)
  (x4, x5)
  (((r97 x2 x3 x4 x5).1), ((r97 x2 x3 x4 x5).2)))
noncomputable def a86 (x0 x1 x2 x3 x4 x5 : Nat) (p : Nat × Nat) : Res := firstT [(true, .agg #[.float .f32 (p.1), .float .f32 (p.2)], st0)]
noncomputable def w86 (x0 x1 x2 x3 x4 x5 : Nat) : Res :=
 (cond (fgt .f32 x0 0)
 (a86 x0 x1 x2 x3 x4 x5 (x2, x3))
 (cond (flt .f32 x1 0 || feq .f32 x1 0)
  (a86 x0 x1 x2 x3 x4 x5 (x4, x5))
  (a86 x0 x1 x2 x3 x4 x5 (((r97 x2 x3 x4 x5).1), ((r97 x2 x3 x4 x5).2)))))
set_option maxRecDepth 100000 in
set_option maxHeartbeats 4000000 in
theorem e86 (x0 x1 x2 x3 x4 x5 : Nat) : evFn Try.prog ext T35 noL 200 Try.f86 [.agg #[.float .f32 x0, .float .f32 x1], .agg #[.float .f32 x2, .float .f32 x3], .agg #[.float .f32 x4, .float .f32 x5]] st0 = firstT [(true, .agg #[.float .f32 ((r86 x0 x1 x2 x3 x4 x5).1), .float .f32 ((r86 x0 x1 x2 x3 x4 x5).2)], st0)] :=
 (show evFn Try.prog ext T35 noL 200 Try.f86 [.agg #[.float .f32 x0, .float .f32 x1], .agg #[.float .f32 x2, .float .f32 x3], .agg #[.float .f32 x4, .float .f32 x5]] st0 = w86 x0 x1 x2 x3 x4 x5 from by kernel_rfl).trans
 (show w86 x0 x1 x2 x3 x4 x5 = a86 x0 x1 x2 x3 x4 x5 (r86 x0 x1 x2 x3 x4 x5) from by unfold w86 r86; exact (cond_app (a86 x0 x1 x2 x3 x4 x5) _ rfl (cond_app (a86 x0 x1 x2 x3 x4 x5) _ rfl rfl)))
noncomputable def s86 (args : List Value) (s : St) : List (Bool × Value × St) :=
 match args, s.h with
 | [.agg ⟨[.float .f32 x0, .float .f32 x1]⟩, .agg ⟨[.float .f32 x2, .float .f32 x3]⟩, .agg ⟨[.float .f32 x4, .float .f32 x5]⟩], [] => [(true, .agg #[.float .f32 ((r86 x0 x1 x2 x3 x4 x5).1), .float .f32 ((r86 x0 x1 x2 x3 x4 x5).2)], st0)]
 | _, _ => T35 86 args s
noncomputable def T36 : CallF := addF T35 86 s86
set_option maxRecDepth 100000 in
set_option maxHeartbeats 4000000 in
theorem ok36 : CfOk Try.prog T36 := by
  refine cfOk_add ok35 fun args s r s' h1 h2 h3 => ?_
  unfold s86 at h3; split at h3
  · rename_i h; exact callOk ok35 Try.func86 h1 h2 h (lfOkF_no _ _).body (e86 _ _ _ _ _ _) rfl h3
  · exact ok35 _ _ _ _ _ h1 h2 h3
end Go.Proofs.Ytfclciebpnnieaa
