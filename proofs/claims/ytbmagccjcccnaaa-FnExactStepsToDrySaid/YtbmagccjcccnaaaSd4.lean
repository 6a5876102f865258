/- What the functions that the statements reach answer, part 4. -/
import Derived.Test.YtbmagccjcccnaaaSd3
namespace Go.Proofs.Ytbmagccjcccnaaa
open Go.Ab
set_option maxHeartbeats 4000000
set_option maxRecDepth 100000

/-- spec.l01Burn, loop 0 -/
noncomputable def r83l0g (x0 x1 x2 x3 x4 x5 x6 x7 x8 x9 x10 x11 x12 x13 x14 x15 x16 x17 x18 x19 x20 x21 x22 x23 x24 x25 x26 x27 x28 x29 x30 x31 x32 x33 x34 x35 x36 x37 x38 x39 x40 x41 x42 x43 x44 x45 x46 x47 x48 x49 x50 x51 x52 x53 x54 x55 x56 x57 : Nat) : Nat × Nat × Nat × Nat × Nat × Nat × Nat × Nat × Nat × Nat × Nat × Nat × Nat × Nat :=
 let c32 := (r109 (fadd .f32 x10 (fdiv .f32 (fmul .f32 1157234688 (r109 x16 (fmul .f32 (fmul .f32 (fmul .f32 (fsub .f32 x10 1132068864) 981668463) x0) x1))) (r110 x4 x5 x6 x7 x8 x9 x10 x11 x12 x13 x14 x15 x16 x17 x18 x19 x20 x21))) 1153138688)
 let c48 := (r83l0f x0 x1 (fmul .f32 1167867904 (r109 x16 (fmul .f32 (fmul .f32 (fmul .f32 (fsub .f32 x10 1132068864) 981668463) x0) x1))) (r109 x16 (fmul .f32 (fmul .f32 (fmul .f32 (fsub .f32 x10 1132068864) 981668463) x0) x1)) x4 x5 x6 x7 x8 x9 x10 x11 x12 x13 x14 x15 x16 x17 x18 x19 x20 x21 x22 x23 x24 x25 x26 x27 x28 x29 x30 x31 x32 x33 x34 x35 x36 x37 x38 x39 x40 x41 x42 x43 x44 x45 c32 x47 x48 x49 x50 x51 (fsub .f32 x16 (r109 x16 (fmul .f32 (fmul .f32 (fmul .f32 (fsub .f32 x10 1132068864) 981668463) x0) x1))) x53 x54 x55 x56 x57)
 let c49 := (r83l0f x0 x1 (fmul .f32 1167867904 0) 0 x4 x5 x6 x7 x8 x9 x10 x11 x12 x13 x14 x15 x16 x17 x18 x19 x20 x21 x22 x23 x24 x25 x26 x27 x28 x29 x30 x31 x32 x33 x34 x35 x36 x37 x38 x39 x40 x41 x42 x43 x44 x45 x46 x47 x48 x49 x50 x51 x52 x53 x54 x55 x56 x57)
 cond (fgt .f32 x10 1132068864 || feq .f32 x10 1132068864)
  (cond (flt .f32 x4 1040187392)
  ((c48.1), (c48.2.1), c32, (c48.2.2.1), (c48.2.2.2.1), (c48.2.2.2.2.1), (c48.2.2.2.2.2.1), (c48.2.2.2.2.2.2.1), (fsub .f32 x16 (r109 x16 (fmul .f32 (fmul .f32 (fmul .f32 (fsub .f32 x10 1132068864) 981668463) x0) x1))), (c48.2.2.2.2.2.2.2.1), (c48.2.2.2.2.2.2.2.2.1), (c48.2.2.2.2.2.2.2.2.2.1), (c48.2.2.2.2.2.2.2.2.2.2.1), (c48.2.2.2.2.2.2.2.2.2.2.2))
  ((c49.1), (c49.2.1), x46, (c49.2.2.1), (c49.2.2.2.1), (c49.2.2.2.2.1), (c49.2.2.2.2.2.1), (c49.2.2.2.2.2.2.1), x52, (c49.2.2.2.2.2.2.2.1), (c49.2.2.2.2.2.2.2.2.1), (c49.2.2.2.2.2.2.2.2.2.1), (c49.2.2.2.2.2.2.2.2.2.2.1), (c49.2.2.2.2.2.2.2.2.2.2.2)))
  ((c49.1), (c49.2.1), x46, (c49.2.2.1), (c49.2.2.2.1), (c49.2.2.2.2.1), (c49.2.2.2.2.2.1), (c49.2.2.2.2.2.2.1), x52, (c49.2.2.2.2.2.2.2.1), (c49.2.2.2.2.2.2.2.2.1), (c49.2.2.2.2.2.2.2.2.2.1), (c49.2.2.2.2.2.2.2.2.2.2.1), (c49.2.2.2.2.2.2.2.2.2.2.2))
noncomputable def a83l0g (x0 x1 x2 x3 x4 x5 x6 x7 x8 x9 x10 x11 x12 x13 x14 x15 x16 x17 x18 x19 x20 x21 x22 x23 x24 x25 x26 x27 x28 x29 x30 x31 x32 x33 x34 x35 x36 x37 x38 x39 x40 x41 x42 x43 x44 x45 x46 x47 x48 x49 x50 x51 x52 x53 x54 x55 x56 x57 : Nat) (p : Nat × Nat × Nat × Nat × Nat × Nat × Nat × Nat × Nat × Nat × Nat × Nat × Nat × Nat) : Option (Fin' × List Value × St) := firstT ([(true, .exit 0, [.pointer (some ⟨1, 0, some 0⟩), .pointer (some ⟨2, 0, some 0⟩), .float .f32 (p.1), .float .f32 (p.2.1)], ⟨[⟨true, (some (.cells [.float .f32 x4, .float .f32 x5, .float .f32 x6, .float .f32 x7, .float .f32 x8, .float .f32 x9, .float .f32 x10, .float .f32 x11, .float .f32 x12, .float .f32 x13, .float .f32 x14, .float .f32 x15, .float .f32 x16, .float .f32 x17, .float .f32 x18, .float .f32 x19, .float .f32 x20, .float .f32 x21]))⟩, ⟨true, (some (.cells [.float .f32 x22, .float .f32 x23, .float .f32 x24, .float .f32 x25, .float .f32 x26, .float .f32 x27, .float .f32 x28, .float .f32 x29, .float .f32 x30, .float .f32 x31, .float .f32 x32, .float .f32 x33, .float .f32 x34, .float .f32 x35, .float .f32 x36, .float .f32 x37, .float .f32 x38, .float .f32 x39]))⟩, ⟨true, (some (.cells [.float .f32 x40, .float .f32 x41, .float .f32 x42, .float .f32 x43, .float .f32 x44, .float .f32 x45, .float .f32 (p.2.2.1), .float .f32 (p.2.2.2.1), .float .f32 (p.2.2.2.2.1), .float .f32 (p.2.2.2.2.2.1), .float .f32 (p.2.2.2.2.2.2.1), .float .f32 (p.2.2.2.2.2.2.2.1), .float .f32 (p.2.2.2.2.2.2.2.2.1), .float .f32 (p.2.2.2.2.2.2.2.2.2.1), .float .f32 (p.2.2.2.2.2.2.2.2.2.2.1), .float .f32 (p.2.2.2.2.2.2.2.2.2.2.2.1), .float .f32 (p.2.2.2.2.2.2.2.2.2.2.2.2.1), .float .f32 (p.2.2.2.2.2.2.2.2.2.2.2.2.2)]))⟩], 3, [2]⟩)].map fun (b, x) => (b, (x.1, frameOf 99 [6, 9, 10, 11] x.2.1, x.2.2)))
noncomputable def w83l0g (x0 x1 x2 x3 x4 x5 x6 x7 x8 x9 x10 x11 x12 x13 x14 x15 x16 x17 x18 x19 x20 x21 x22 x23 x24 x25 x26 x27 x28 x29 x30 x31 x32 x33 x34 x35 x36 x37 x38 x39 x40 x41 x42 x43 x44 x45 x46 x47 x48 x49 x50 x51 x52 x53 x54 x55 x56 x57 : Nat) : Option (Fin' × List Value × St) :=
 let c32 := (r109 (fadd .f32 x10 (fdiv .f32 (fmul .f32 1157234688 (r109 x16 (fmul .f32 (fmul .f32 (fmul .f32 (fsub .f32 x10 1132068864) 981668463) x0) x1))) (r110 x4 x5 x6 x7 x8 x9 x10 x11 x12 x13 x14 x15 x16 x17 x18 x19 x20 x21))) 1153138688)
 let c48 := (r83l0f x0 x1 (fmul .f32 1167867904 (r109 x16 (fmul .f32 (fmul .f32 (fmul .f32 (fsub .f32 x10 1132068864) 981668463) x0) x1))) (r109 x16 (fmul .f32 (fmul .f32 (fmul .f32 (fsub .f32 x10 1132068864) 981668463) x0) x1)) x4 x5 x6 x7 x8 x9 x10 x11 x12 x13 x14 x15 x16 x17 x18 x19 x20 x21 x22 x23 x24 x25 x26 x27 x28 x29 x30 x31 x32 x33 x34 x35 x36 x37 x38 x39 x40 x41 x42 x43 x44 x45 c32 x47 x48 x49 x50 x51 (fsub .f32 x16 (r109 x16 (fmul .f32 (fmul .f32 (fmul .f32 (fsub .f32 x10 1132068864) 981668463) x0) x1))) x53 x54 x55 x56 x57)
 let c49 := (r83l0f x0 x1 (fmul .f32 1167867904 0) 0 x4 x5 x6 x7 x8 x9 x10 x11 x12 x13 x14 x15 x16 x17 x18 x19 x20 x21 x22 x23 x24 x25 x26 x27 x28 x29 x30 x31 x32 x33 x34 x35 x36 x37 x38 x39 x40 x41 x42 x43 x44 x45 x46 x47 x48 x49 x50 x51 x52 x53 x54 x55 x56 x57)
 (cond (fgt .f32 x10 1132068864 || feq .f32 x10 1132068864)
 (cond (flt .f32 x4 1040187392)
  (a83l0g x0 x1 x2 x3 x4 x5 x6 x7 x8 x9 x10 x11 x12 x13 x14 x15 x16 x17 x18 x19 x20 x21 x22 x23 x24 x25 x26 x27 x28 x29 x30 x31 x32 x33 x34 x35 x36 x37 x38 x39 x40 x41 x42 x43 x44 x45 x46 x47 x48 x49 x50 x51 x52 x53 x54 x55 x56 x57 ((c48.1), (c48.2.1), c32, (c48.2.2.1), (c48.2.2.2.1), (c48.2.2.2.2.1), (c48.2.2.2.2.2.1), (c48.2.2.2.2.2.2.1), (fsub .f32 x16 (r109 x16 (fmul .f32 (fmul .f32 (fmul .f32 (fsub .f32 x10 1132068864) 981668463) x0) x1))), (c48.2.2.2.2.2.2.2.1), (c48.2.2.2.2.2.2.2.2.1), (c48.2.2.2.2.2.2.2.2.2.1), (c48.2.2.2.2.2.2.2.2.2.2.1), (c48.2.2.2.2.2.2.2.2.2.2.2)))
  (a83l0g x0 x1 x2 x3 x4 x5 x6 x7 x8 x9 x10 x11 x12 x13 x14 x15 x16 x17 x18 x19 x20 x21 x22 x23 x24 x25 x26 x27 x28 x29 x30 x31 x32 x33 x34 x35 x36 x37 x38 x39 x40 x41 x42 x43 x44 x45 x46 x47 x48 x49 x50 x51 x52 x53 x54 x55 x56 x57 ((c49.1), (c49.2.1), x46, (c49.2.2.1), (c49.2.2.2.1), (c49.2.2.2.2.1), (c49.2.2.2.2.2.1), (c49.2.2.2.2.2.2.1), x52, (c49.2.2.2.2.2.2.2.1), (c49.2.2.2.2.2.2.2.2.1), (c49.2.2.2.2.2.2.2.2.2.1), (c49.2.2.2.2.2.2.2.2.2.2.1), (c49.2.2.2.2.2.2.2.2.2.2.2))))
 (a83l0g x0 x1 x2 x3 x4 x5 x6 x7 x8 x9 x10 x11 x12 x13 x14 x15 x16 x17 x18 x19 x20 x21 x22 x23 x24 x25 x26 x27 x28 x29 x30 x31 x32 x33 x34 x35 x36 x37 x38 x39 x40 x41 x42 x43 x44 x45 x46 x47 x48 x49 x50 x51 x52 x53 x54 x55 x56 x57 ((c49.1), (c49.2.1), x46, (c49.2.2.1), (c49.2.2.2.1), (c49.2.2.2.2.1), (c49.2.2.2.2.2.1), (c49.2.2.2.2.2.2.1), x52, (c49.2.2.2.2.2.2.2.1), (c49.2.2.2.2.2.2.2.2.1), (c49.2.2.2.2.2.2.2.2.2.1), (c49.2.2.2.2.2.2.2.2.2.2.1), (c49.2.2.2.2.2.2.2.2.2.2.2))))
set_option maxRecDepth 100000 in
set_option maxHeartbeats 4000000 in
theorem e83l0g (x0 x1 x2 x3 x4 x5 x6 x7 x8 x9 x10 x11 x12 x13 x14 x15 x16 x17 x18 x19 x20 x21 x22 x23 x24 x25 x26 x27 x28 x29 x30 x31 x32 x33 x34 x35 x36 x37 x38 x39 x40 x41 x42 x43 x44 x45 x46 x47 x48 x49 x50 x51 x52 x53 x54 x55 x56 x57 : Nat) : evC Try.prog ext T20 L83_6 200 (loopN Try.f83 0) (loopTail ([0, 1, 2, 6, 9, 10, 11, 12], []) [6, 9, 10, 11] [] (sumK 99 [0, 1, 2, 6, 9, 10, 11, 12] [6, 9, 10, 11] Q83l0f)) (frameOf 99 [0, 1, 2, 6, 9, 10, 11, 12] [.pointer (some ⟨0, 0, some 0⟩), .float .f32 x0, .float .f32 x1, .pointer (some ⟨1, 0, some 0⟩), .pointer (some ⟨2, 0, some 0⟩), .float .f32 x2, .float .f32 x3, .int .i64 0]) ⟨[⟨true, (some (.cells [.float .f32 x4, .float .f32 x5, .float .f32 x6, .float .f32 x7, .float .f32 x8, .float .f32 x9, .float .f32 x10, .float .f32 x11, .float .f32 x12, .float .f32 x13, .float .f32 x14, .float .f32 x15, .float .f32 x16, .float .f32 x17, .float .f32 x18, .float .f32 x19, .float .f32 x20, .float .f32 x21]))⟩, ⟨true, (some (.cells [.float .f32 x22, .float .f32 x23, .float .f32 x24, .float .f32 x25, .float .f32 x26, .float .f32 x27, .float .f32 x28, .float .f32 x29, .float .f32 x30, .float .f32 x31, .float .f32 x32, .float .f32 x33, .float .f32 x34, .float .f32 x35, .float .f32 x36, .float .f32 x37, .float .f32 x38, .float .f32 x39]))⟩, ⟨true, (some (.cells [.float .f32 x40, .float .f32 x41, .float .f32 x42, .float .f32 x43, .float .f32 x44, .float .f32 x45, .float .f32 x46, .float .f32 x47, .float .f32 x48, .float .f32 x49, .float .f32 x50, .float .f32 x51, .float .f32 x52, .float .f32 x53, .float .f32 x54, .float .f32 x55, .float .f32 x56, .float .f32 x57]))⟩], 3, []⟩ = firstT ([(true, .exit 0, [.pointer (some ⟨1, 0, some 0⟩), .pointer (some ⟨2, 0, some 0⟩), .float .f32 ((r83l0g x0 x1 x2 x3 x4 x5 x6 x7 x8 x9 x10 x11 x12 x13 x14 x15 x16 x17 x18 x19 x20 x21 x22 x23 x24 x25 x26 x27 x28 x29 x30 x31 x32 x33 x34 x35 x36 x37 x38 x39 x40 x41 x42 x43 x44 x45 x46 x47 x48 x49 x50 x51 x52 x53 x54 x55 x56 x57).1), .float .f32 ((r83l0g x0 x1 x2 x3 x4 x5 x6 x7 x8 x9 x10 x11 x12 x13 x14 x15 x16 x17 x18 x19 x20 x21 x22 x23 x24 x25 x26 x27 x28 x29 x30 x31 x32 x33 x34 x35 x36 x37 x38 x39 x40 x41 x42 x43 x44 x45 x46 x47 x48 x49 x50 x51 x52 x53 x54 x55 x56 x57).2.1)], ⟨[⟨true, (some (.cells [.float .f32 x4, .float .f32 x5, .float .f32 x6, .float .f32 x7, .float .f32 x8, .float .f32 x9, .float .f32 x10, .float .f32 x11, .float .f32 x12, .float .f32 x13, .float .f32 x14, .float .f32 x15, .float .f32 x16, .float .f32 x17, .float .f32 x18, .float .f32 x19, .float .f32 x20, .float .f32 x21]))⟩, ⟨true, (some (.cells [.float .f32 x22, .float .f32 x23, .float .f32 x24, .float .f32 x25, .float .f32 x26, .float .f32 x27, .float .f32 x28, .float .f32 x29, .float .f32 x30, .float .f32 x31, .float .f32 x32, .float .f32 x33, .float .f32 x34, .float .f32 x35, .float .f32 x36, .float .f32 x37, .float .f32 x38, .float .f32 x39]))⟩, ⟨true, (some (.cells [.float .f32 x40, .float .f32 x41, .float .f32 x42, .float .f32 x43, .float .f32 x44, .float .f32 x45, .float .f32 ((r83l0g x0 x1 x2 x3 x4 x5 x6 x7 x8 x9 x10 x11 x12 x13 x14 x15 x16 x17 x18 x19 x20 x21 x22 x23 x24 x25 x26 x27 x28 x29 x30 x31 x32 x33 x34 x35 x36 x37 x38 x39 x40 x41 x42 x43 x44 x45 x46 x47 x48 x49 x50 x51 x52 x53 x54 x55 x56 x57).2.2.1), .float .f32 ((r83l0g x0 x1 x2 x3 x4 x5 x6 x7 x8 x9 x10 x11 x12 x13 x14 x15 x16 x17 x18 x19 x20 x21 x22 x23 x24 x25 x26 x27 x28 x29 x30 x31 x32 x33 x34 x35 x36 x37 x38 x39 x40 x41 x42 x43 x44 x45 x46 x47 x48 x49 x50 x51 x52 x53 x54 x55 x56 x57).2.2.2.1), .float .f32 ((r83l0g x0 x1 x2 x3 x4 x5 x6 x7 x8 x9 x10 x11 x12 x13 x14 x15 x16 x17 x18 x19 x20 x21 x22 x23 x24 x25 x26 x27 x28 x29 x30 x31 x32 x33 x34 x35 x36 x37 x38 x39 x40 x41 x42 x43 x44 x45 x46 x47 x48 x49 x50 x51 x52 x53 x54 x55 x56 x57).2.2.2.2.1), .float .f32 ((r83l0g x0 x1 x2 x3 x4 x5 x6 x7 x8 x9 x10 x11 x12 x13 x14 x15 x16 x17 x18 x19 x20 x21 x22 x23 x24 x25 x26 x27 x28 x29 x30 x31 x32 x33 x34 x35 x36 x37 x38 x39 x40 x41 x42 x43 x44 x45 x46 x47 x48 x49 x50 x51 x52 x53 x54 x55 x56 x57).2.2.2.2.2.1), .float .f32 ((r83l0g x0 x1 x2 x3 x4 x5 x6 x7 x8 x9 x10 x11 x12 x13 x14 x15 x16 x17 x18 x19 x20 x21 x22 x23 x24 x25 x26 x27 x28 x29 x30 x31 x32 x33 x34 x35 x36 x37 x38 x39 x40 x41 x42 x43 x44 x45 x46 x47 x48 x49 x50 x51 x52 x53 x54 x55 x56 x57).2.2.2.2.2.2.1), .float .f32 ((r83l0g x0 x1 x2 x3 x4 x5 x6 x7 x8 x9 x10 x11 x12 x13 x14 x15 x16 x17 x18 x19 x20 x21 x22 x23 x24 x25 x26 x27 x28 x29 x30 x31 x32 x33 x34 x35 x36 x37 x38 x39 x40 x41 x42 x43 x44 x45 x46 x47 x48 x49 x50 x51 x52 x53 x54 x55 x56 x57).2.2.2.2.2.2.2.1), .float .f32 ((r83l0g x0 x1 x2 x3 x4 x5 x6 x7 x8 x9 x10 x11 x12 x13 x14 x15 x16 x17 x18 x19 x20 x21 x22 x23 x24 x25 x26 x27 x28 x29 x30 x31 x32 x33 x34 x35 x36 x37 x38 x39 x40 x41 x42 x43 x44 x45 x46 x47 x48 x49 x50 x51 x52 x53 x54 x55 x56 x57).2.2.2.2.2.2.2.2.1), .float .f32 ((r83l0g x0 x1 x2 x3 x4 x5 x6 x7 x8 x9 x10 x11 x12 x13 x14 x15 x16 x17 x18 x19 x20 x21 x22 x23 x24 x25 x26 x27 x28 x29 x30 x31 x32 x33 x34 x35 x36 x37 x38 x39 x40 x41 x42 x43 x44 x45 x46 x47 x48 x49 x50 x51 x52 x53 x54 x55 x56 x57).2.2.2.2.2.2.2.2.2.1), .float .f32 ((r83l0g x0 x1 x2 x3 x4 x5 x6 x7 x8 x9 x10 x11 x12 x13 x14 x15 x16 x17 x18 x19 x20 x21 x22 x23 x24 x25 x26 x27 x28 x29 x30 x31 x32 x33 x34 x35 x36 x37 x38 x39 x40 x41 x42 x43 x44 x45 x46 x47 x48 x49 x50 x51 x52 x53 x54 x55 x56 x57).2.2.2.2.2.2.2.2.2.2.1), .float .f32 ((r83l0g x0 x1 x2 x3 x4 x5 x6 x7 x8 x9 x10 x11 x12 x13 x14 x15 x16 x17 x18 x19 x20 x21 x22 x23 x24 x25 x26 x27 x28 x29 x30 x31 x32 x33 x34 x35 x36 x37 x38 x39 x40 x41 x42 x43 x44 x45 x46 x47 x48 x49 x50 x51 x52 x53 x54 x55 x56 x57).2.2.2.2.2.2.2.2.2.2.2.1), .float .f32 ((r83l0g x0 x1 x2 x3 x4 x5 x6 x7 x8 x9 x10 x11 x12 x13 x14 x15 x16 x17 x18 x19 x20 x21 x22 x23 x24 x25 x26 x27 x28 x29 x30 x31 x32 x33 x34 x35 x36 x37 x38 x39 x40 x41 x42 x43 x44 x45 x46 x47 x48 x49 x50 x51 x52 x53 x54 x55 x56 x57).2.2.2.2.2.2.2.2.2.2.2.2.1), .float .f32 ((r83l0g x0 x1 x2 x3 x4 x5 x6 x7 x8 x9 x10 x11 x12 x13 x14 x15 x16 x17 x18 x19 x20 x21 x22 x23 x24 x25 x26 x27 x28 x29 x30 x31 x32 x33 x34 x35 x36 x37 x38 x39 x40 x41 x42 x43 x44 x45 x46 x47 x48 x49 x50 x51 x52 x53 x54 x55 x56 x57).2.2.2.2.2.2.2.2.2.2.2.2.2)]))⟩], 3, [2]⟩)].map fun (b, x) => (b, (x.1, frameOf 99 [6, 9, 10, 11] x.2.1, x.2.2))) :=
 (show evC Try.prog ext T20 L83_6 200 (loopN Try.f83 0) (loopTail ([0, 1, 2, 6, 9, 10, 11, 12], []) [6, 9, 10, 11] [] (sumK 99 [0, 1, 2, 6, 9, 10, 11, 12] [6, 9, 10, 11] Q83l0f)) (frameOf 99 [0, 1, 2, 6, 9, 10, 11, 12] [.pointer (some ⟨0, 0, some 0⟩), .float .f32 x0, .float .f32 x1, .pointer (some ⟨1, 0, some 0⟩), .pointer (some ⟨2, 0, some 0⟩), .float .f32 x2, .float .f32 x3, .int .i64 0]) ⟨[⟨true, (some (.cells [.float .f32 x4, .float .f32 x5, .float .f32 x6, .float .f32 x7, .float .f32 x8, .float .f32 x9, .float .f32 x10, .float .f32 x11, .float .f32 x12, .float .f32 x13, .float .f32 x14, .float .f32 x15, .float .f32 x16, .float .f32 x17, .float .f32 x18, .float .f32 x19, .float .f32 x20, .float .f32 x21]))⟩, ⟨true, (some (.cells [.float .f32 x22, .float .f32 x23, .float .f32 x24, .float .f32 x25, .float .f32 x26, .float .f32 x27, .float .f32 x28, .float .f32 x29, .float .f32 x30, .float .f32 x31, .float .f32 x32, .float .f32 x33, .float .f32 x34, .float .f32 x35, .float .f32 x36, .float .f32 x37, .float .f32 x38, .float .f32 x39]))⟩, ⟨true, (some (.cells [.float .f32 x40, .float .f32 x41, .float .f32 x42, .float .f32 x43, .float .f32 x44, .float .f32 x45, .float .f32 x46, .float .f32 x47, .float .f32 x48, .float .f32 x49, .float .f32 x50, .float .f32 x51, .float .f32 x52, .float .f32 x53, .float .f32 x54, .float .f32 x55, .float .f32 x56, .float .f32 x57]))⟩], 3, []⟩ = w83l0g x0 x1 x2 x3 x4 x5 x6 x7 x8 x9 x10 x11 x12 x13 x14 x15 x16 x17 x18 x19 x20 x21 x22 x23 x24 x25 x26 x27 x28 x29 x30 x31 x32 x33 x34 x35 x36 x37 x38 x39 x40 x41 x42 x43 x44 x45 x46 x47 x48 x49 x50 x51 x52 x53 x54 x55 x56 x57 from by kernel_rfl).trans
 (show w83l0g x0 x1 x2 x3 x4 x5 x6 x7 x8 x9 x10 x11 x12 x13 x14 x15 x16 x17 x18 x19 x20 x21 x22 x23 x24 x25 x26 x27 x28 x29 x30 x31 x32 x33 x34 x35 x36 x37 x38 x39 x40 x41 x42 x43 x44 x45 x46 x47 x48 x49 x50 x51 x52 x53 x54 x55 x56 x57 = a83l0g x0 x1 x2 x3 x4 x5 x6 x7 x8 x9 x10 x11 x12 x13 x14 x15 x16 x17 x18 x19 x20 x21 x22 x23 x24 x25 x26 x27 x28 x29 x30 x31 x32 x33 x34 x35 x36 x37 x38 x39 x40 x41 x42 x43 x44 x45 x46 x47 x48 x49 x50 x51 x52 x53 x54 x55 x56 x57 (r83l0g x0 x1 x2 x3 x4 x5 x6 x7 x8 x9 x10 x11 x12 x13 x14 x15 x16 x17 x18 x19 x20 x21 x22 x23 x24 x25 x26 x27 x28 x29 x30 x31 x32 x33 x34 x35 x36 x37 x38 x39 x40 x41 x42 x43 x44 x45 x46 x47 x48 x49 x50 x51 x52 x53 x54 x55 x56 x57) from by unfold w83l0g r83l0g; exact (cond_app (a83l0g x0 x1 x2 x3 x4 x5 x6 x7 x8 x9 x10 x11 x12 x13 x14 x15 x16 x17 x18 x19 x20 x21 x22 x23 x24 x25 x26 x27 x28 x29 x30 x31 x32 x33 x34 x35 x36 x37 x38 x39 x40 x41 x42 x43 x44 x45 x46 x47 x48 x49 x50 x51 x52 x53 x54 x55 x56 x57) _ (cond_app (a83l0g x0 x1 x2 x3 x4 x5 x6 x7 x8 x9 x10 x11 x12 x13 x14 x15 x16 x17 x18 x19 x20 x21 x22 x23 x24 x25 x26 x27 x28 x29 x30 x31 x32 x33 x34 x35 x36 x37 x38 x39 x40 x41 x42 x43 x44 x45 x46 x47 x48 x49 x50 x51 x52 x53 x54 x55 x56 x57) _ rfl rfl) rfl))
noncomputable def Q83l0g : SumK := fun vals s =>
 match vals, s.h with
 | [.pointer (some ⟨f0, f1, some f2⟩), .float .f32 x0, .float .f32 x1, .pointer (some ⟨f3, f4, some f5⟩), .pointer (some ⟨f6, f7, some f8⟩), .float .f32 x2, .float .f32 x3, .int .i64 f9], [⟨true, some (.cells [.float .f32 x4, .float .f32 x5, .float .f32 x6, .float .f32 x7, .float .f32 x8, .float .f32 x9, .float .f32 x10, .float .f32 x11, .float .f32 x12, .float .f32 x13, .float .f32 x14, .float .f32 x15, .float .f32 x16, .float .f32 x17, .float .f32 x18, .float .f32 x19, .float .f32 x20, .float .f32 x21])⟩, ⟨true, some (.cells [.float .f32 x22, .float .f32 x23, .float .f32 x24, .float .f32 x25, .float .f32 x26, .float .f32 x27, .float .f32 x28, .float .f32 x29, .float .f32 x30, .float .f32 x31, .float .f32 x32, .float .f32 x33, .float .f32 x34, .float .f32 x35, .float .f32 x36, .float .f32 x37, .float .f32 x38, .float .f32 x39])⟩, ⟨true, some (.cells [.float .f32 x40, .float .f32 x41, .float .f32 x42, .float .f32 x43, .float .f32 x44, .float .f32 x45, .float .f32 x46, .float .f32 x47, .float .f32 x48, .float .f32 x49, .float .f32 x50, .float .f32 x51, .float .f32 x52, .float .f32 x53, .float .f32 x54, .float .f32 x55, .float .f32 x56, .float .f32 x57])⟩] => if f0 = 0 ∧ f1 = 0 ∧ f2 = 0 ∧ f3 = 1 ∧ f4 = 0 ∧ f5 = 0 ∧ f6 = 2 ∧ f7 = 0 ∧ f8 = 0 ∧ f9 = 0 then [(true, .exit 0, [.pointer (some ⟨1, 0, some 0⟩), .pointer (some ⟨2, 0, some 0⟩), .float .f32 ((r83l0g x0 x1 x2 x3 x4 x5 x6 x7 x8 x9 x10 x11 x12 x13 x14 x15 x16 x17 x18 x19 x20 x21 x22 x23 x24 x25 x26 x27 x28 x29 x30 x31 x32 x33 x34 x35 x36 x37 x38 x39 x40 x41 x42 x43 x44 x45 x46 x47 x48 x49 x50 x51 x52 x53 x54 x55 x56 x57).1), .float .f32 ((r83l0g x0 x1 x2 x3 x4 x5 x6 x7 x8 x9 x10 x11 x12 x13 x14 x15 x16 x17 x18 x19 x20 x21 x22 x23 x24 x25 x26 x27 x28 x29 x30 x31 x32 x33 x34 x35 x36 x37 x38 x39 x40 x41 x42 x43 x44 x45 x46 x47 x48 x49 x50 x51 x52 x53 x54 x55 x56 x57).2.1)], ⟨[⟨true, (some (.cells [.float .f32 x4, .float .f32 x5, .float .f32 x6, .float .f32 x7, .float .f32 x8, .float .f32 x9, .float .f32 x10, .float .f32 x11, .float .f32 x12, .float .f32 x13, .float .f32 x14, .float .f32 x15, .float .f32 x16, .float .f32 x17, .float .f32 x18, .float .f32 x19, .float .f32 x20, .float .f32 x21]))⟩, ⟨true, (some (.cells [.float .f32 x22, .float .f32 x23, .float .f32 x24, .float .f32 x25, .float .f32 x26, .float .f32 x27, .float .f32 x28, .float .f32 x29, .float .f32 x30, .float .f32 x31, .float .f32 x32, .float .f32 x33, .float .f32 x34, .float .f32 x35, .float .f32 x36, .float .f32 x37, .float .f32 x38, .float .f32 x39]))⟩, ⟨true, (some (.cells [.float .f32 x40, .float .f32 x41, .float .f32 x42, .float .f32 x43, .float .f32 x44, .float .f32 x45, .float .f32 ((r83l0g x0 x1 x2 x3 x4 x5 x6 x7 x8 x9 x10 x11 x12 x13 x14 x15 x16 x17 x18 x19 x20 x21 x22 x23 x24 x25 x26 x27 x28 x29 x30 x31 x32 x33 x34 x35 x36 x37 x38 x39 x40 x41 x42 x43 x44 x45 x46 x47 x48 x49 x50 x51 x52 x53 x54 x55 x56 x57).2.2.1), .float .f32 ((r83l0g x0 x1 x2 x3 x4 x5 x6 x7 x8 x9 x10 x11 x12 x13 x14 x15 x16 x17 x18 x19 x20 x21 x22 x23 x24 x25 x26 x27 x28 x29 x30 x31 x32 x33 x34 x35 x36 x37 x38 x39 x40 x41 x42 x43 x44 x45 x46 x47 x48 x49 x50 x51 x52 x53 x54 x55 x56 x57).2.2.2.1), .float .f32 ((r83l0g x0 x1 x2 x3 x4 x5 x6 x7 x8 x9 x10 x11 x12 x13 x14 x15 x16 x17 x18 x19 x20 x21 x22 x23 x24 x25 x26 x27 x28 x29 x30 x31 x32 x33 x34 x35 x36 x37 x38 x39 x40 x41 x42 x43 x44 x45 x46 x47 x48 x49 x50 x51 x52 x53 x54 x55 x56 x57).2.2.2.2.1), .float .f32 ((r83l0g x0 x1 x2 x3 x4 x5 x6 x7 x8 x9 x10 x11 x12 x13 x14 x15 x16 x17 x18 x19 x20 x21 x22 x23 x24 x25 x26 x27 x28 x29 x30 x31 x32 x33 x34 x35 x36 x37 x38 x39 x40 x41 x42 x43 x44 x45 x46 x47 x48 x49 x50 x51 x52 x53 x54 x55 x56 x57).2.2.2.2.2.1), .float .f32 ((r83l0g x0 x1 x2 x3 x4 x5 x6 x7 x8 x9 x10 x11 x12 x13 x14 x15 x16 x17 x18 x19 x20 x21 x22 x23 x24 x25 x26 x27 x28 x29 x30 x31 x32 x33 x34 x35 x36 x37 x38 x39 x40 x41 x42 x43 x44 x45 x46 x47 x48 x49 x50 x51 x52 x53 x54 x55 x56 x57).2.2.2.2.2.2.1), .float .f32 ((r83l0g x0 x1 x2 x3 x4 x5 x6 x7 x8 x9 x10 x11 x12 x13 x14 x15 x16 x17 x18 x19 x20 x21 x22 x23 x24 x25 x26 x27 x28 x29 x30 x31 x32 x33 x34 x35 x36 x37 x38 x39 x40 x41 x42 x43 x44 x45 x46 x47 x48 x49 x50 x51 x52 x53 x54 x55 x56 x57).2.2.2.2.2.2.2.1), .float .f32 ((r83l0g x0 x1 x2 x3 x4 x5 x6 x7 x8 x9 x10 x11 x12 x13 x14 x15 x16 x17 x18 x19 x20 x21 x22 x23 x24 x25 x26 x27 x28 x29 x30 x31 x32 x33 x34 x35 x36 x37 x38 x39 x40 x41 x42 x43 x44 x45 x46 x47 x48 x49 x50 x51 x52 x53 x54 x55 x56 x57).2.2.2.2.2.2.2.2.1), .float .f32 ((r83l0g x0 x1 x2 x3 x4 x5 x6 x7 x8 x9 x10 x11 x12 x13 x14 x15 x16 x17 x18 x19 x20 x21 x22 x23 x24 x25 x26 x27 x28 x29 x30 x31 x32 x33 x34 x35 x36 x37 x38 x39 x40 x41 x42 x43 x44 x45 x46 x47 x48 x49 x50 x51 x52 x53 x54 x55 x56 x57).2.2.2.2.2.2.2.2.2.1), .float .f32 ((r83l0g x0 x1 x2 x3 x4 x5 x6 x7 x8 x9 x10 x11 x12 x13 x14 x15 x16 x17 x18 x19 x20 x21 x22 x23 x24 x25 x26 x27 x28 x29 x30 x31 x32 x33 x34 x35 x36 x37 x38 x39 x40 x41 x42 x43 x44 x45 x46 x47 x48 x49 x50 x51 x52 x53 x54 x55 x56 x57).2.2.2.2.2.2.2.2.2.2.1), .float .f32 ((r83l0g x0 x1 x2 x3 x4 x5 x6 x7 x8 x9 x10 x11 x12 x13 x14 x15 x16 x17 x18 x19 x20 x21 x22 x23 x24 x25 x26 x27 x28 x29 x30 x31 x32 x33 x34 x35 x36 x37 x38 x39 x40 x41 x42 x43 x44 x45 x46 x47 x48 x49 x50 x51 x52 x53 x54 x55 x56 x57).2.2.2.2.2.2.2.2.2.2.2.1), .float .f32 ((r83l0g x0 x1 x2 x3 x4 x5 x6 x7 x8 x9 x10 x11 x12 x13 x14 x15 x16 x17 x18 x19 x20 x21 x22 x23 x24 x25 x26 x27 x28 x29 x30 x31 x32 x33 x34 x35 x36 x37 x38 x39 x40 x41 x42 x43 x44 x45 x46 x47 x48 x49 x50 x51 x52 x53 x54 x55 x56 x57).2.2.2.2.2.2.2.2.2.2.2.2.1), .float .f32 ((r83l0g x0 x1 x2 x3 x4 x5 x6 x7 x8 x9 x10 x11 x12 x13 x14 x15 x16 x17 x18 x19 x20 x21 x22 x23 x24 x25 x26 x27 x28 x29 x30 x31 x32 x33 x34 x35 x36 x37 x38 x39 x40 x41 x42 x43 x44 x45 x46 x47 x48 x49 x50 x51 x52 x53 x54 x55 x56 x57).2.2.2.2.2.2.2.2.2.2.2.2.2)]))⟩], 3, [2]⟩)] else Q83l0f vals s
 | _, _ => Q83l0f vals s
set_option maxRecDepth 100000 in
set_option maxHeartbeats 4000000 in
theorem qok83l0g : SumKOk Try.prog (loopN Try.f83 0) 99 [0, 1, 2, 6, 9, 10, 11, 12] [6, 9, 10, 11] Q83l0g := by
  intro vals s x h1 h2 h3
  unfold Q83l0g at h3; split at h3
  · rename_i h; split at h3
    · rename_i hc; obtain ⟨rfl, rfl, rfl, rfl, rfl, rfl, rfl, rfl, rfl, rfl⟩ := hc; exact sum_step ok20 extOk mixed (lok83_6.inner (by kernel_rfl)) qok83l0f h1 h2 h (e83l0g _ _ _ _ _ _ _ _ _ _ _ _ _ _ _ _ _ _ _ _ _ _ _ _ _ _ _ _ _ _ _ _ _ _ _ _ _ _ _ _ _ _ _ _ _ _ _ _ _ _ _ _ _ _ _ _ _ _) rfl h3
    · exact qok83l0f _ _ _ h1 h2 h3
  · exact qok83l0f _ _ _ h1 h2 h3
noncomputable def L83_7 : LoopT := addL L83_6 6 ([0, 1, 2, 6, 9, 10, 11, 12], []) (sumK 99 [0, 1, 2, 6, 9, 10, 11, 12] [6, 9, 10, 11] Q83l0g)
theorem lok83_7 : LfOkF Try.prog L83_7 Try.f83 := lfOkF_add lok83_6 qok83l0g (by kernel_rfl) (by kernel_rfl) (by kernel_rfl)

/-- spec.l01Burn -/
noncomputable def r83 (x0 x1 x2 x3 x4 x5 x6 x7 x8 x9 x10 x11 x12 x13 x14 x15 x16 x17 x18 x19 : Nat) : Nat × Nat × Nat × Nat × Nat × Nat × Nat × Nat × Nat × Nat × Nat × Nat × Nat × Nat :=
 let c50 := (r83l0g x0 x1 0 0 x2 x3 x4 x5 x6 x7 x8 x9 x10 x11 x12 x13 x14 x15 x16 x17 x18 x19 0 0 0 0 0 0 0 0 0 0 0 0 0 0 0 0 0 0 x2 x3 x4 x5 x6 x7 x8 x9 x10 x11 x12 x13 x14 x15 x16 x17 x18 x19)
 ((c50.2.2.1), (c50.2.2.2.1), (c50.2.2.2.2.1), (c50.2.2.2.2.2.1), (c50.2.2.2.2.2.2.1), (c50.2.2.2.2.2.2.2.1), (c50.2.2.2.2.2.2.2.2.1), (c50.2.2.2.2.2.2.2.2.2.1), (c50.2.2.2.2.2.2.2.2.2.2.1), (c50.2.2.2.2.2.2.2.2.2.2.2.1), (c50.2.2.2.2.2.2.2.2.2.2.2.2.1), (c50.2.2.2.2.2.2.2.2.2.2.2.2.2), (c50.1), (c50.2.1))
noncomputable def a83 (x0 x1 x2 x3 x4 x5 x6 x7 x8 x9 x10 x11 x12 x13 x14 x15 x16 x17 x18 x19 : Nat) (p : Nat × Nat × Nat × Nat × Nat × Nat × Nat × Nat × Nat × Nat × Nat × Nat × Nat × Nat) : Res := firstT [(true, .tuple #[.agg #[.float .f32 x2, .float .f32 x3, .float .f32 x4, .float .f32 x5, .float .f32 x6, .float .f32 x7, .float .f32 (p.1), .float .f32 (p.2.1), .float .f32 (p.2.2.1), .float .f32 (p.2.2.2.1), .float .f32 (p.2.2.2.2.1), .float .f32 (p.2.2.2.2.2.1), .float .f32 (p.2.2.2.2.2.2.1), .float .f32 (p.2.2.2.2.2.2.2.1), .float .f32 (p.2.2.2.2.2.2.2.2.1), .float .f32 (p.2.2.2.2.2.2.2.2.2.1), .float .f32 (p.2.2.2.2.2.2.2.2.2.2.1), .float .f32 (p.2.2.2.2.2.2.2.2.2.2.2.1)], .float .f32 (p.2.2.2.2.2.2.2.2.2.2.2.2.1), .float .f32 (p.2.2.2.2.2.2.2.2.2.2.2.2.2)], ⟨[⟨true, (some (.cells [.float .f32 x2, .float .f32 x3, .float .f32 x4, .float .f32 x5, .float .f32 x6, .float .f32 x7, .float .f32 x8, .float .f32 x9, .float .f32 x10, .float .f32 x11, .float .f32 x12, .float .f32 x13, .float .f32 x14, .float .f32 x15, .float .f32 x16, .float .f32 x17, .float .f32 x18, .float .f32 x19]))⟩], 1, []⟩)]
noncomputable def w83 (x0 x1 x2 x3 x4 x5 x6 x7 x8 x9 x10 x11 x12 x13 x14 x15 x16 x17 x18 x19 : Nat) : Res :=
 let c50 := (r83l0g x0 x1 0 0 x2 x3 x4 x5 x6 x7 x8 x9 x10 x11 x12 x13 x14 x15 x16 x17 x18 x19 0 0 0 0 0 0 0 0 0 0 0 0 0 0 0 0 0 0 x2 x3 x4 x5 x6 x7 x8 x9 x10 x11 x12 x13 x14 x15 x16 x17 x18 x19)
 (a83 x0 x1 x2 x3 x4 x5 x6 x7 x8 x9 x10 x11 x12 x13 x14 x15 x16 x17 x18 x19 ((c50.2.2.1), (c50.2.2.2.1), (c50.2.2.2.2.1), (c50.2.2.2.2.2.1), (c50.2.2.2.2.2.2.1), (c50.2.2.2.2.2.2.2.1), (c50.2.2.2.2.2.2.2.2.1), (c50.2.2.2.2.2.2.2.2.2.1), (c50.2.2.2.2.2.2.2.2.2.2.1), (c50.2.2.2.2.2.2.2.2.2.2.2.1), (c50.2.2.2.2.2.2.2.2.2.2.2.2.1), (c50.2.2.2.2.2.2.2.2.2.2.2.2.2), (c50.1), (c50.2.1)))
set_option maxRecDepth 100000 in
set_option maxHeartbeats 4000000 in
theorem e83 (x0 x1 x2 x3 x4 x5 x6 x7 x8 x9 x10 x11 x12 x13 x14 x15 x16 x17 x18 x19 : Nat) : evFn Try.prog ext T20 L83_7 200 Try.f83 [.pointer (some ⟨0, 0, some 0⟩), .float .f32 x0, .float .f32 x1] ⟨[⟨true, (some (.cells [.float .f32 x2, .float .f32 x3, .float .f32 x4, .float .f32 x5, .float .f32 x6, .float .f32 x7, .float .f32 x8, .float .f32 x9, .float .f32 x10, .float .f32 x11, .float .f32 x12, .float .f32 x13, .float .f32 x14, .float .f32 x15, .float .f32 x16, .float .f32 x17, .float .f32 x18, .float .f32 x19]))⟩], 1, []⟩ = firstT [(true, .tuple #[.agg #[.float .f32 x2, .float .f32 x3, .float .f32 x4, .float .f32 x5, .float .f32 x6, .float .f32 x7, .float .f32 ((r83 x0 x1 x2 x3 x4 x5 x6 x7 x8 x9 x10 x11 x12 x13 x14 x15 x16 x17 x18 x19).1), .float .f32 ((r83 x0 x1 x2 x3 x4 x5 x6 x7 x8 x9 x10 x11 x12 x13 x14 x15 x16 x17 x18 x19).2.1), .float .f32 ((r83 x0 x1 x2 x3 x4 x5 x6 x7 x8 x9 x10 x11 x12 x13 x14 x15 x16 x17 x18 x19).2.2.1), .float .f32 ((r83 x0 x1 x2 x3 x4 x5 x6 x7 x8 x9 x10 x11 x12 x13 x14 x15 x16 x17 x18 x19).2.2.2.1), .float .f32 ((r83 x0 x1 x2 x3 x4 x5 x6 x7 x8 x9 x10 x11 x12 x13 x14 x15 x16 x17 x18 x19).2.2.2.2.1), .float .f32 ((r83 x0 x1 x2 x3 x4 x5 x6 x7 x8 x9 x10 x11 x12 x13 x14 x15 x16 x17 x18 x19).2.2.2.2.2.1), .float .f32 ((r83 x0 x1 x2 x3 x4 x5 x6 x7 x8 x9 x10 x11 x12 x13 x14 x15 x16 x17 x18 x19).2.2.2.2.2.2.1), .float .f32 ((r83 x0 x1 x2 x3 x4 x5 x6 x7 x8 x9 x10 x11 x12 x13 x14 x15 x16 x17 x18 x19).2.2.2.2.2.2.2.1), .float .f32 ((r83 x0 x1 x2 x3 x4 x5 x6 x7 x8 x9 x10 x11 x12 x13 x14 x15 x16 x17 x18 x19).2.2.2.2.2.2.2.2.1), .float .f32 ((r83 x0 x1 x2 x3 x4 x5 x6 x7 x8 x9 x10 x11 x12 x13 x14 x15 x16 x17 x18 x19).2.2.2.2.2.2.2.2.2.1), .float .f32 ((r83 x0 x1 x2 x3 x4 x5 x6 x7 x8 x9 x10 x11 x12 x13 x14 x15 x16 x17 x18 x19).2.2.2.2.2.2.2.2.2.2.1), .float .f32 ((r83 x0 x1 x2 x3 x4 x5 x6 x7 x8 x9 x10 x11 x12 x13 x14 x15 x16 x17 x18 x19).2.2.2.2.2.2.2.2.2.2.2.1)], .float .f32 ((r83 x0 x1 x2 x3 x4 x5 x6 x7 x8 x9 x10 x11 x12 x13 x14 x15 x16 x17 x18 x19).2.2.2.2.2.2.2.2.2.2.2.2.1), .float .f32 ((r83 x0 x1 x2 x3 x4 x5 x6 x7 x8 x9 x10 x11 x12 x13 x14 x15 x16 x17 x18 x19).2.2.2.2.2.2.2.2.2.2.2.2.2)], ⟨[⟨true, (some (.cells [.float .f32 x2, .float .f32 x3, .float .f32 x4, .float .f32 x5, .float .f32 x6, .float .f32 x7, .float .f32 x8, .float .f32 x9, .float .f32 x10, .float .f32 x11, .float .f32 x12, .float .f32 x13, .float .f32 x14, .float .f32 x15, .float .f32 x16, .float .f32 x17, .float .f32 x18, .float .f32 x19]))⟩], 1, []⟩)] :=
 (show evFn Try.prog ext T20 L83_7 200 Try.f83 [.pointer (some ⟨0, 0, some 0⟩), .float .f32 x0, .float .f32 x1] ⟨[⟨true, (some (.cells [.float .f32 x2, .float .f32 x3, .float .f32 x4, .float .f32 x5, .float .f32 x6, .float .f32 x7, .float .f32 x8, .float .f32 x9, .float .f32 x10, .float .f32 x11, .float .f32 x12, .float .f32 x13, .float .f32 x14, .float .f32 x15, .float .f32 x16, .float .f32 x17, .float .f32 x18, .float .f32 x19]))⟩], 1, []⟩ = w83 x0 x1 x2 x3 x4 x5 x6 x7 x8 x9 x10 x11 x12 x13 x14 x15 x16 x17 x18 x19 from by kernel_rfl).trans
 (show w83 x0 x1 x2 x3 x4 x5 x6 x7 x8 x9 x10 x11 x12 x13 x14 x15 x16 x17 x18 x19 = a83 x0 x1 x2 x3 x4 x5 x6 x7 x8 x9 x10 x11 x12 x13 x14 x15 x16 x17 x18 x19 (r83 x0 x1 x2 x3 x4 x5 x6 x7 x8 x9 x10 x11 x12 x13 x14 x15 x16 x17 x18 x19) from by unfold w83 r83; exact rfl)
noncomputable def s83 (args : List Value) (s : St) : List (Bool × Value × St) :=
 match args, s.h with
 | [.pointer (some ⟨f0, f1, some f2⟩), .float .f32 x0, .float .f32 x1], [⟨true, some (.cells [.float .f32 x2, .float .f32 x3, .float .f32 x4, .float .f32 x5, .float .f32 x6, .float .f32 x7, .float .f32 x8, .float .f32 x9, .float .f32 x10, .float .f32 x11, .float .f32 x12, .float .f32 x13, .float .f32 x14, .float .f32 x15, .float .f32 x16, .float .f32 x17, .float .f32 x18, .float .f32 x19])⟩] => if f0 = 0 ∧ f1 = 0 ∧ f2 = 0 then [(true, .tuple #[.agg #[.float .f32 x2, .float .f32 x3, .float .f32 x4, .float .f32 x5, .float .f32 x6, .float .f32 x7, .float .f32 ((r83 x0 x1 x2 x3 x4 x5 x6 x7 x8 x9 x10 x11 x12 x13 x14 x15 x16 x17 x18 x19).1), .float .f32 ((r83 x0 x1 x2 x3 x4 x5 x6 x7 x8 x9 x10 x11 x12 x13 x14 x15 x16 x17 x18 x19).2.1), .float .f32 ((r83 x0 x1 x2 x3 x4 x5 x6 x7 x8 x9 x10 x11 x12 x13 x14 x15 x16 x17 x18 x19).2.2.1), .float .f32 ((r83 x0 x1 x2 x3 x4 x5 x6 x7 x8 x9 x10 x11 x12 x13 x14 x15 x16 x17 x18 x19).2.2.2.1), .float .f32 ((r83 x0 x1 x2 x3 x4 x5 x6 x7 x8 x9 x10 x11 x12 x13 x14 x15 x16 x17 x18 x19).2.2.2.2.1), .float .f32 ((r83 x0 x1 x2 x3 x4 x5 x6 x7 x8 x9 x10 x11 x12 x13 x14 x15 x16 x17 x18 x19).2.2.2.2.2.1), .float .f32 ((r83 x0 x1 x2 x3 x4 x5 x6 x7 x8 x9 x10 x11 x12 x13 x14 x15 x16 x17 x18 x19).2.2.2.2.2.2.1), .float .f32 ((r83 x0 x1 x2 x3 x4 x5 x6 x7 x8 x9 x10 x11 x12 x13 x14 x15 x16 x17 x18 x19).2.2.2.2.2.2.2.1), .float .f32 ((r83 x0 x1 x2 x3 x4 x5 x6 x7 x8 x9 x10 x11 x12 x13 x14 x15 x16 x17 x18 x19).2.2.2.2.2.2.2.2.1), .float .f32 ((r83 x0 x1 x2 x3 x4 x5 x6 x7 x8 x9 x10 x11 x12 x13 x14 x15 x16 x17 x18 x19).2.2.2.2.2.2.2.2.2.1), .float .f32 ((r83 x0 x1 x2 x3 x4 x5 x6 x7 x8 x9 x10 x11 x12 x13 x14 x15 x16 x17 x18 x19).2.2.2.2.2.2.2.2.2.2.1), .float .f32 ((r83 x0 x1 x2 x3 x4 x5 x6 x7 x8 x9 x10 x11 x12 x13 x14 x15 x16 x17 x18 x19).2.2.2.2.2.2.2.2.2.2.2.1)], .float .f32 ((r83 x0 x1 x2 x3 x4 x5 x6 x7 x8 x9 x10 x11 x12 x13 x14 x15 x16 x17 x18 x19).2.2.2.2.2.2.2.2.2.2.2.2.1), .float .f32 ((r83 x0 x1 x2 x3 x4 x5 x6 x7 x8 x9 x10 x11 x12 x13 x14 x15 x16 x17 x18 x19).2.2.2.2.2.2.2.2.2.2.2.2.2)], ⟨[⟨true, (some (.cells [.float .f32 x2, .float .f32 x3, .float .f32 x4, .float .f32 x5, .float .f32 x6, .float .f32 x7, .float .f32 x8, .float .f32 x9, .float .f32 x10, .float .f32 x11, .float .f32 x12, .float .f32 x13, .float .f32 x14, .float .f32 x15, .float .f32 x16, .float .f32 x17, .float .f32 x18, .float .f32 x19]))⟩], 1, []⟩)] else T20 83 args s
 | _, _ => T20 83 args s
noncomputable def T21 : CallF := addF T20 83 s83
set_option maxRecDepth 100000 in
set_option maxHeartbeats 4000000 in
theorem ok21 : CfOk Try.prog T21 := by
  refine cfOk_add ok20 fun args s r s' h1 h2 h3 => ?_
  unfold s83 at h3; split at h3
  · rename_i h; split at h3
    · rename_i hc; obtain ⟨rfl, rfl, rfl⟩ := hc; exact callOk ok20 Try.func83 h1 h2 h lok83_7.body (e83 _ _ _ _ _ _ _ _ _ _ _ _ _ _ _ _ _ _ _ _) rfl h3
    · exact ok20 _ _ _ _ _ h1 h2 h3
  · exact ok20 _ _ _ _ _ h1 h2 h3

/-- spec.l01Step -/
noncomputable def r72 (x0 x1 x2 x3 x4 x5 x6 x7 x8 x9 x10 x11 x12 x13 x14 x15 x16 x17 x18 x19 x20 : Nat) : Nat × Nat × Nat × Nat × Nat × Nat × Nat × Nat × Nat × Nat × Nat × Nat × Nat × Nat × Nat × Nat × Nat × Nat × Nat × Nat × Nat × Int :=
 let c25 := (r80 x2 ((r103 x0 x2 x3 x4 x5 x6 x7 x8 x9 x10 x11 x12 x13 x14 x15 x16 x17 x18 x19 x20).1) ((r103 x0 x2 x3 x4 x5 x6 x7 x8 x9 x10 x11 x12 x13 x14 x15 x16 x17 x18 x19 x20).2.1) ((r103 x0 x2 x3 x4 x5 x6 x7 x8 x9 x10 x11 x12 x13 x14 x15 x16 x17 x18 x19 x20).2.2.1) ((r103 x0 x2 x3 x4 x5 x6 x7 x8 x9 x10 x11 x12 x13 x14 x15 x16 x17 x18 x19 x20).2.2.2.1) ((r103 x0 x2 x3 x4 x5 x6 x7 x8 x9 x10 x11 x12 x13 x14 x15 x16 x17 x18 x19 x20).2.2.2.2.1) ((r103 x0 x2 x3 x4 x5 x6 x7 x8 x9 x10 x11 x12 x13 x14 x15 x16 x17 x18 x19 x20).2.2.2.2.2.1) ((r103 x0 x2 x3 x4 x5 x6 x7 x8 x9 x10 x11 x12 x13 x14 x15 x16 x17 x18 x19 x20).2.2.2.2.2.2.1) ((r103 x0 x2 x3 x4 x5 x6 x7 x8 x9 x10 x11 x12 x13 x14 x15 x16 x17 x18 x19 x20).2.2.2.2.2.2.2.1) ((r103 x0 x2 x3 x4 x5 x6 x7 x8 x9 x10 x11 x12 x13 x14 x15 x16 x17 x18 x19 x20).2.2.2.2.2.2.2.2.1) ((r103 x0 x2 x3 x4 x5 x6 x7 x8 x9 x10 x11 x12 x13 x14 x15 x16 x17 x18 x19 x20).2.2.2.2.2.2.2.2.2.1) ((r103 x0 x2 x3 x4 x5 x6 x7 x8 x9 x10 x11 x12 x13 x14 x15 x16 x17 x18 x19 x20).2.2.2.2.2.2.2.2.2.2.1) ((r103 x0 x2 x3 x4 x5 x6 x7 x8 x9 x10 x11 x12 x13 x14 x15 x16 x17 x18 x19 x20).2.2.2.2.2.2.2.2.2.2.2.1) ((r103 x0 x2 x3 x4 x5 x6 x7 x8 x9 x10 x11 x12 x13 x14 x15 x16 x17 x18 x19 x20).2.2.2.2.2.2.2.2.2.2.2.2.1) ((r103 x0 x2 x3 x4 x5 x6 x7 x8 x9 x10 x11 x12 x13 x14 x15 x16 x17 x18 x19 x20).2.2.2.2.2.2.2.2.2.2.2.2.2.1) ((r103 x0 x2 x3 x4 x5 x6 x7 x8 x9 x10 x11 x12 x13 x14 x15 x16 x17 x18 x19 x20).2.2.2.2.2.2.2.2.2.2.2.2.2.2.1) ((r103 x0 x2 x3 x4 x5 x6 x7 x8 x9 x10 x11 x12 x13 x14 x15 x16 x17 x18 x19 x20).2.2.2.2.2.2.2.2.2.2.2.2.2.2.2.1) ((r103 x0 x2 x3 x4 x5 x6 x7 x8 x9 x10 x11 x12 x13 x14 x15 x16 x17 x18 x19 x20).2.2.2.2.2.2.2.2.2.2.2.2.2.2.2.2.1) ((r103 x0 x2 x3 x4 x5 x6 x7 x8 x9 x10 x11 x12 x13 x14 x15 x16 x17 x18 x19 x20).2.2.2.2.2.2.2.2.2.2.2.2.2.2.2.2.2.1))
 let c51 := (r83 x1 x2 (c25.1) (c25.2.1) (c25.2.2.1) (c25.2.2.2.1) (c25.2.2.2.2.1) (c25.2.2.2.2.2.1) (c25.2.2.2.2.2.2.1) (c25.2.2.2.2.2.2.2.1) (c25.2.2.2.2.2.2.2.2.1) (c25.2.2.2.2.2.2.2.2.2.1) (c25.2.2.2.2.2.2.2.2.2.2.1) (c25.2.2.2.2.2.2.2.2.2.2.2.1) ((r103 x0 x2 x3 x4 x5 x6 x7 x8 x9 x10 x11 x12 x13 x14 x15 x16 x17 x18 x19 x20).2.2.2.2.2.2.2.2.2.2.2.2.1) ((r103 x0 x2 x3 x4 x5 x6 x7 x8 x9 x10 x11 x12 x13 x14 x15 x16 x17 x18 x19 x20).2.2.2.2.2.2.2.2.2.2.2.2.2.1) ((r103 x0 x2 x3 x4 x5 x6 x7 x8 x9 x10 x11 x12 x13 x14 x15 x16 x17 x18 x19 x20).2.2.2.2.2.2.2.2.2.2.2.2.2.2.1) ((r103 x0 x2 x3 x4 x5 x6 x7 x8 x9 x10 x11 x12 x13 x14 x15 x16 x17 x18 x19 x20).2.2.2.2.2.2.2.2.2.2.2.2.2.2.2.1) ((r103 x0 x2 x3 x4 x5 x6 x7 x8 x9 x10 x11 x12 x13 x14 x15 x16 x17 x18 x19 x20).2.2.2.2.2.2.2.2.2.2.2.2.2.2.2.2.1) ((r103 x0 x2 x3 x4 x5 x6 x7 x8 x9 x10 x11 x12 x13 x14 x15 x16 x17 x18 x19 x20).2.2.2.2.2.2.2.2.2.2.2.2.2.2.2.2.2.1))
 cond ((((r103 x0 x2 x3 x4 x5 x6 x7 x8 x9 x10 x11 x12 x13 x14 x15 x16 x17 x18 x19 x20).2.2.2.2.2.2.2.2.2.2.2.2.2.2.2.2.2.2.2) : Int) != 0)
  (0, 0, 0, 0, 0, 0, 0, 0, 0, 0, 0, 0, 0, 0, 0, 0, 0, 0, 0, 0, 0, ((r103 x0 x2 x3 x4 x5 x6 x7 x8 x9 x10 x11 x12 x13 x14 x15 x16 x17 x18 x19 x20).2.2.2.2.2.2.2.2.2.2.2.2.2.2.2.2.2.2.2))
  ((c25.1), (c25.2.1), (c25.2.2.1), (c25.2.2.2.1), (c25.2.2.2.2.1), (c25.2.2.2.2.2.1), (c51.1), (c51.2.1), (c51.2.2.1), (c51.2.2.2.1), (c51.2.2.2.2.1), (c51.2.2.2.2.2.1), (c51.2.2.2.2.2.2.1), (c51.2.2.2.2.2.2.2.1), (c51.2.2.2.2.2.2.2.2.1), (c51.2.2.2.2.2.2.2.2.2.1), (c51.2.2.2.2.2.2.2.2.2.2.1), (c51.2.2.2.2.2.2.2.2.2.2.2.1), (fsub .f32 (c51.2.2.2.2.2.2.2.2.2.2.2.2.1) ((r103 x0 x2 x3 x4 x5 x6 x7 x8 x9 x10 x11 x12 x13 x14 x15 x16 x17 x18 x19 x20).2.2.2.2.2.2.2.2.2.2.2.2.2.2.2.2.2.2.1)), (c25.2.2.2.2.2.2.2.2.2.2.2.2), (c51.2.2.2.2.2.2.2.2.2.2.2.2.2), 0)
noncomputable def a72 (x0 x1 x2 x3 x4 x5 x6 x7 x8 x9 x10 x11 x12 x13 x14 x15 x16 x17 x18 x19 x20 : Nat) (p : Nat × Nat × Nat × Nat × Nat × Nat × Nat × Nat × Nat × Nat × Nat × Nat × Nat × Nat × Nat × Nat × Nat × Nat × Nat × Nat × Nat × Int) : Res := firstT [(true, .tuple #[.agg #[.float .f32 (p.1), .float .f32 (p.2.1), .float .f32 (p.2.2.1), .float .f32 (p.2.2.2.1), .float .f32 (p.2.2.2.2.1), .float .f32 (p.2.2.2.2.2.1), .float .f32 (p.2.2.2.2.2.2.1), .float .f32 (p.2.2.2.2.2.2.2.1), .float .f32 (p.2.2.2.2.2.2.2.2.1), .float .f32 (p.2.2.2.2.2.2.2.2.2.1), .float .f32 (p.2.2.2.2.2.2.2.2.2.2.1), .float .f32 (p.2.2.2.2.2.2.2.2.2.2.2.1), .float .f32 (p.2.2.2.2.2.2.2.2.2.2.2.2.1), .float .f32 (p.2.2.2.2.2.2.2.2.2.2.2.2.2.1), .float .f32 (p.2.2.2.2.2.2.2.2.2.2.2.2.2.2.1), .float .f32 (p.2.2.2.2.2.2.2.2.2.2.2.2.2.2.2.1), .float .f32 (p.2.2.2.2.2.2.2.2.2.2.2.2.2.2.2.2.1), .float .f32 (p.2.2.2.2.2.2.2.2.2.2.2.2.2.2.2.2.2.1)], .float .f32 (p.2.2.2.2.2.2.2.2.2.2.2.2.2.2.2.2.2.2.1), .float .f32 (p.2.2.2.2.2.2.2.2.2.2.2.2.2.2.2.2.2.2.2.1), .float .f32 (p.2.2.2.2.2.2.2.2.2.2.2.2.2.2.2.2.2.2.2.2.1), .int .i64 (p.2.2.2.2.2.2.2.2.2.2.2.2.2.2.2.2.2.2.2.2.2)], ⟨[⟨true, (some (.cells [.float .f32 x3, .float .f32 x4, .float .f32 x5, .float .f32 x6, .float .f32 x7, .float .f32 x8, .float .f32 x9, .float .f32 x10, .float .f32 x11, .float .f32 x12, .float .f32 x13, .float .f32 x14, .float .f32 x15, .float .f32 x16, .float .f32 x17, .float .f32 x18, .float .f32 x19, .float .f32 x20]))⟩], 1, []⟩)]
noncomputable def w72 (x0 x1 x2 x3 x4 x5 x6 x7 x8 x9 x10 x11 x12 x13 x14 x15 x16 x17 x18 x19 x20 : Nat) : Res :=
 let c25 := (r80 x2 ((r103 x0 x2 x3 x4 x5 x6 x7 x8 x9 x10 x11 x12 x13 x14 x15 x16 x17 x18 x19 x20).1) ((r103 x0 x2 x3 x4 x5 x6 x7 x8 x9 x10 x11 x12 x13 x14 x15 x16 x17 x18 x19 x20).2.1) ((r103 x0 x2 x3 x4 x5 x6 x7 x8 x9 x10 x11 x12 x13 x14 x15 x16 x17 x18 x19 x20).2.2.1) ((r103 x0 x2 x3 x4 x5 x6 x7 x8 x9 x10 x11 x12 x13 x14 x15 x16 x17 x18 x19 x20).2.2.2.1) ((r103 x0 x2 x3 x4 x5 x6 x7 x8 x9 x10 x11 x12 x13 x14 x15 x16 x17 x18 x19 x20).2.2.2.2.1) ((r103 x0 x2 x3 x4 x5 x6 x7 x8 x9 x10 x11 x12 x13 x14 x15 x16 x17 x18 x19 x20).2.2.2.2.2.1) ((r103 x0 x2 x3 x4 x5 x6 x7 x8 x9 x10 x11 x12 x13 x14 x15 x16 x17 x18 x19 x20).2.2.2.2.2.2.1) ((r103 x0 x2 x3 x4 x5 x6 x7 x8 x9 x10 x11 x12 x13 x14 x15 x16 x17 x18 x19 x20).2.2.2.2.2.2.2.1) ((r103 x0 x2 x3 x4 x5 x6 x7 x8 x9 x10 x11 x12 x13 x14 x15 x16 x17 x18 x19 x20).2.2.2.2.2.2.2.2.1) ((r103 x0 x2 x3 x4 x5 x6 x7 x8 x9 x10 x11 x12 x13 x14 x15 x16 x17 x18 x19 x20).2.2.2.2.2.2.2.2.2.1) ((r103 x0 x2 x3 x4 x5 x6 x7 x8 x9 x10 x11 x12 x13 x14 x15 x16 x17 x18 x19 x20).2.2.2.2.2.2.2.2.2.2.1) ((r103 x0 x2 x3 x4 x5 x6 x7 x8 x9 x10 x11 x12 x13 x14 x15 x16 x17 x18 x19 x20).2.2.2.2.2.2.2.2.2.2.2.1) ((r103 x0 x2 x3 x4 x5 x6 x7 x8 x9 x10 x11 x12 x13 x14 x15 x16 x17 x18 x19 x20).2.2.2.2.2.2.2.2.2.2.2.2.1) ((r103 x0 x2 x3 x4 x5 x6 x7 x8 x9 x10 x11 x12 x13 x14 x15 x16 x17 x18 x19 x20).2.2.2.2.2.2.2.2.2.2.2.2.2.1) ((r103 x0 x2 x3 x4 x5 x6 x7 x8 x9 x10 x11 x12 x13 x14 x15 x16 x17 x18 x19 x20).2.2.2.2.2.2.2.2.2.2.2.2.2.2.1) ((r103 x0 x2 x3 x4 x5 x6 x7 x8 x9 x10 x11 x12 x13 x14 x15 x16 x17 x18 x19 x20).2.2.2.2.2.2.2.2.2.2.2.2.2.2.2.1) ((r103 x0 x2 x3 x4 x5 x6 x7 x8 x9 x10 x11 x12 x13 x14 x15 x16 x17 x18 x19 x20).2.2.2.2.2.2.2.2.2.2.2.2.2.2.2.2.1) ((r103 x0 x2 x3 x4 x5 x6 x7 x8 x9 x10 x11 x12 x13 x14 x15 x16 x17 x18 x19 x20).2.2.2.2.2.2.2.2.2.2.2.2.2.2.2.2.2.1))
 let c51 := (r83 x1 x2 (c25.1) (c25.2.1) (c25.2.2.1) (c25.2.2.2.1) (c25.2.2.2.2.1) (c25.2.2.2.2.2.1) (c25.2.2.2.2.2.2.1) (c25.2.2.2.2.2.2.2.1) (c25.2.2.2.2.2.2.2.2.1) (c25.2.2.2.2.2.2.2.2.2.1) (c25.2.2.2.2.2.2.2.2.2.2.1) (c25.2.2.2.2.2.2.2.2.2.2.2.1) ((r103 x0 x2 x3 x4 x5 x6 x7 x8 x9 x10 x11 x12 x13 x14 x15 x16 x17 x18 x19 x20).2.2.2.2.2.2.2.2.2.2.2.2.1) ((r103 x0 x2 x3 x4 x5 x6 x7 x8 x9 x10 x11 x12 x13 x14 x15 x16 x17 x18 x19 x20).2.2.2.2.2.2.2.2.2.2.2.2.2.1) ((r103 x0 x2 x3 x4 x5 x6 x7 x8 x9 x10 x11 x12 x13 x14 x15 x16 x17 x18 x19 x20).2.2.2.2.2.2.2.2.2.2.2.2.2.2.1) ((r103 x0 x2 x3 x4 x5 x6 x7 x8 x9 x10 x11 x12 x13 x14 x15 x16 x17 x18 x19 x20).2.2.2.2.2.2.2.2.2.2.2.2.2.2.2.1) ((r103 x0 x2 x3 x4 x5 x6 x7 x8 x9 x10 x11 x12 x13 x14 x15 x16 x17 x18 x19 x20).2.2.2.2.2.2.2.2.2.2.2.2.2.2.2.2.1) ((r103 x0 x2 x3 x4 x5 x6 x7 x8 x9 x10 x11 x12 x13 x14 x15 x16 x17 x18 x19 x20).2.2.2.2.2.2.2.2.2.2.2.2.2.2.2.2.2.1))
 (cond ((((r103 x0 x2 x3 x4 x5 x6 x7 x8 x9 x10 x11 x12 x13 x14 x15 x16 x17 x18 x19 x20).2.2.2.2.2.2.2.2.2.2.2.2.2.2.2.2.2.2.2) : Int) != 0)
 (a72 x0 x1 x2 x3 x4 x5 x6 x7 x8 x9 x10 x11 x12 x13 x14 x15 x16 x17 x18 x19 x20 (0, 0, 0, 0, 0, 0, 0, 0, 0, 0, 0, 0, 0, 0, 0, 0, 0, 0, 0, 0, 0, ((r103 x0 x2 x3 x4 x5 x6 x7 x8 x9 x10 x11 x12 x13 x14 x15 x16 x17 x18 x19 x20).2.2.2.2.2.2.2.2.2.2.2.2.2.2.2.2.2.2.2)))
 (a72 x0 x1 x2 x3 x4 x5 x6 x7 x8 x9 x10 x11 x12 x13 x14 x15 x16 x17 x18 x19 x20 ((c25.1), (c25.2.1), (c25.2.2.1), (c25.2.2.2.1), (c25.2.2.2.2.1), (c25.2.2.2.2.2.1), (c51.1), (c51.2.1), (c51.2.2.1), (c51.2.2.2.1), (c51.2.2.2.2.1), (c51.2.2.2.2.2.1), (c51.2.2.2.2.2.2.1), (c51.2.2.2.2.2.2.2.1), (c51.2.2.2.2.2.2.2.2.1), (c51.2.2.2.2.2.2.2.2.2.1), (c51.2.2.2.2.2.2.2.2.2.2.1), (c51.2.2.2.2.2.2.2.2.2.2.2.1), (fsub .f32 (c51.2.2.2.2.2.2.2.2.2.2.2.2.1) ((r103 x0 x2 x3 x4 x5 x6 x7 x8 x9 x10 x11 x12 x13 x14 x15 x16 x17 x18 x19 x20).2.2.2.2.2.2.2.2.2.2.2.2.2.2.2.2.2.2.1)), (c25.2.2.2.2.2.2.2.2.2.2.2.2), (c51.2.2.2.2.2.2.2.2.2.2.2.2.2), 0)))
set_option maxRecDepth 100000 in
set_option maxHeartbeats 4000000 in
theorem e72 (x0 x1 x2 x3 x4 x5 x6 x7 x8 x9 x10 x11 x12 x13 x14 x15 x16 x17 x18 x19 x20 : Nat) : evFn Try.prog ext T21 noL 200 Try.f72 [.pointer (some ⟨0, 0, some 0⟩), .float .f32 x0, .float .f32 x1, .float .f32 x2] ⟨[⟨true, (some (.cells [.float .f32 x3, .float .f32 x4, .float .f32 x5, .float .f32 x6, .float .f32 x7, .float .f32 x8, .float .f32 x9, .float .f32 x10, .float .f32 x11, .float .f32 x12, .float .f32 x13, .float .f32 x14, .float .f32 x15, .float .f32 x16, .float .f32 x17, .float .f32 x18, .float .f32 x19, .float .f32 x20]))⟩], 1, []⟩ = firstT [(true, .tuple #[.agg #[.float .f32 ((r72 x0 x1 x2 x3 x4 x5 x6 x7 x8 x9 x10 x11 x12 x13 x14 x15 x16 x17 x18 x19 x20).1), .float .f32 ((r72 x0 x1 x2 x3 x4 x5 x6 x7 x8 x9 x10 x11 x12 x13 x14 x15 x16 x17 x18 x19 x20).2.1), .float .f32 ((r72 x0 x1 x2 x3 x4 x5 x6 x7 x8 x9 x10 x11 x12 x13 x14 x15 x16 x17 x18 x19 x20).2.2.1), .float .f32 ((r72 x0 x1 x2 x3 x4 x5 x6 x7 x8 x9 x10 x11 x12 x13 x14 x15 x16 x17 x18 x19 x20).2.2.2.1), .float .f32 ((r72 x0 x1 x2 x3 x4 x5 x6 x7 x8 x9 x10 x11 x12 x13 x14 x15 x16 x17 x18 x19 x20).2.2.2.2.1), .float .f32 ((r72 x0 x1 x2 x3 x4 x5 x6 x7 x8 x9 x10 x11 x12 x13 x14 x15 x16 x17 x18 x19 x20).2.2.2.2.2.1), .float .f32 ((r72 x0 x1 x2 x3 x4 x5 x6 x7 x8 x9 x10 x11 x12 x13 x14 x15 x16 x17 x18 x19 x20).2.2.2.2.2.2.1), .float .f32 ((r72 x0 x1 x2 x3 x4 x5 x6 x7 x8 x9 x10 x11 x12 x13 x14 x15 x16 x17 x18 x19 x20).2.2.2.2.2.2.2.1), .float .f32 ((r72 x0 x1 x2 x3 x4 x5 x6 x7 x8 x9 x10 x11 x12 x13 x14 x15 x16 x17 x18 x19 x20).2.2.2.2.2.2.2.2.1), .float .f32 ((r72 x0 x1 x2 x3 x4 x5 x6 x7 x8 x9 x10 x11 x12 x13 x14 x15 x16 x17 x18 x19 x20).2.2.2.2.2.2.2.2.2.1), .float .f32 ((r72 x0 x1 x2 x3 x4 x5 x6 x7 x8 x9 x10 x11 x12 x13 x14 x15 x16 x17 x18 x19 x20).2.2.2.2.2.2.2.2.2.2.1), .float .f32 ((r72 x0 x1 x2 x3 x4 x5 x6 x7 x8 x9 x10 x11 x12 x13 x14 x15 x16 x17 x18 x19 x20).2.2.2.2.2.2.2.2.2.2.2.1), .float .f32 ((r72 x0 x1 x2 x3 x4 x5 x6 x7 x8 x9 x10 x11 x12 x13 x14 x15 x16 x17 x18 x19 x20).2.2.2.2.2.2.2.2.2.2.2.2.1), .float .f32 ((r72 x0 x1 x2 x3 x4 x5 x6 x7 x8 x9 x10 x11 x12 x13 x14 x15 x16 x17 x18 x19 x20).2.2.2.2.2.2.2.2.2.2.2.2.2.1), .float .f32 ((r72 x0 x1 x2 x3 x4 x5 x6 x7 x8 x9 x10 x11 x12 x13 x14 x15 x16 x17 x18 x19 x20).2.2.2.2.2.2.2.2.2.2.2.2.2.2.1), .float .f32 ((r72 x0 x1 x2 x3 x4 x5 x6 x7 x8 x9 x10 x11 x12 x13 x14 x15 x16 x17 x18 x19 x20).2.2.2.2.2.2.2.2.2.2.2.2.2.2.2.1), .float .f32 ((r72 x0 x1 x2 x3 x4 x5 x6 x7 x8 x9 x10 x11 x12 x13 x14 x15 x16 x17 x18 x19 x20).2.2.2.2.2.2.2.2.2.2.2.2.2.2.2.2.1), .float .f32 ((r72 x0 x1 x2 x3 x4 x5 x6 x7 x8 x9 x10 x11 x12 x13 x14 x15 x16 x17 x18 x19 x20).2.2.2.2.2.2.2.2.2.2.2.2.2.2.2.2.2.1)], .float .f32 ((r72 x0 x1 x2 x3 x4 x5 x6 x7 x8 x9 x10 x11 x12 x13 x14 x15 x16 x17 x18 x19 x20).2.2.2.2.2.2.2.2.2.2.2.2.2.2.2.2.2.2.1), .float .f32 ((r72 x0 x1 x2 x3 x4 x5 x6 x7 x8 x9 x10 x11 x12 x13 x14 x15 x16 x17 x18 x19 x20).2.2.2.2.2.2.2.2.2.2.2.2.2.2.2.2.2.2.2.1), .float .f32 ((r72 x0 x1 x2 x3 x4 x5 x6 x7 x8 x9 x10 x11 x12 x13 x14 x15 x16 x17 x18 x19 x20).2.2.2.2.2.2.2.2.2.2.2.2.2.2.2.2.2.2.2.2.1), .int .i64 ((r72 x0 x1 x2 x3 x4 x5 x6 x7 x8 x9 x10 x11 x12 x13 x14 x15 x16 x17 x18 x19 x20).2.2.2.2.2.2.2.2.2.2.2.2.2.2.2.2.2.2.2.2.2)], ⟨[⟨true, (some (.cells [.float .f32 x3, .float .f32 x4, .float .f32 x5, .float .f32 x6, .float .f32 x7, .float .f32 x8, .float .f32 x9, .float .f32 x10, .float .f32 x11, .float .f32 x12, .float .f32 x13, .float .f32 x14, .float .f32 x15, .float .f32 x16, .float .f32 x17, .float .f32 x18, .float .f32 x19, .float .f32 x20]))⟩], 1, []⟩)] :=
 (show evFn Try.prog ext T21 noL 200 Try.f72 [.pointer (some ⟨0, 0, some 0⟩), .float .f32 x0, .float .f32 x1, .float .f32 x2] ⟨[⟨true, (some (.cells [.float .f32 x3, .float .f32 x4, .float .f32 x5, .float .f32 x6, .float .f32 x7, .float .f32 x8, .float .f32 x9, .float .f32 x10, .float .f32 x11, .float .f32 x12, .float .f32 x13, .float .f32 x14, .float .f32 x15, .float .f32 x16, .float .f32 x17, .float .f32 x18, .float .f32 x19, .float .f32 x20]))⟩], 1, []⟩ = w72 x0 x1 x2 x3 x4 x5 x6 x7 x8 x9 x10 x11 x12 x13 x14 x15 x16 x17 x18 x19 x20 from by kernel_rfl).trans
 (show w72 x0 x1 x2 x3 x4 x5 x6 x7 x8 x9 x10 x11 x12 x13 x14 x15 x16 x17 x18 x19 x20 = a72 x0 x1 x2 x3 x4 x5 x6 x7 x8 x9 x10 x11 x12 x13 x14 x15 x16 x17 x18 x19 x20 (r72 x0 x1 x2 x3 x4 x5 x6 x7 x8 x9 x10 x11 x12 x13 x14 x15 x16 x17 x18 x19 x20) from by unfold w72 r72; exact (cond_app (a72 x0 x1 x2 x3 x4 x5 x6 x7 x8 x9 x10 x11 x12 x13 x14 x15 x16 x17 x18 x19 x20) _ rfl rfl))
noncomputable def s72 (args : List Value) (s : St) : List (Bool × Value × St) :=
 match args, s.h with
 | [.pointer (some ⟨f0, f1, some f2⟩), .float .f32 x0, .float .f32 x1, .float .f32 x2], [⟨true, some (.cells [.float .f32 x3, .float .f32 x4, .float .f32 x5, .float .f32 x6, .float .f32 x7, .float .f32 x8, .float .f32 x9, .float .f32 x10, .float .f32 x11, .float .f32 x12, .float .f32 x13, .float .f32 x14, .float .f32 x15, .float .f32 x16, .float .f32 x17, .float .f32 x18, .float .f32 x19, .float .f32 x20])⟩] => if f0 = 0 ∧ f1 = 0 ∧ f2 = 0 then [(true, .tuple #[.agg #[.float .f32 ((r72 x0 x1 x2 x3 x4 x5 x6 x7 x8 x9 x10 x11 x12 x13 x14 x15 x16 x17 x18 x19 x20).1), .float .f32 ((r72 x0 x1 x2 x3 x4 x5 x6 x7 x8 x9 x10 x11 x12 x13 x14 x15 x16 x17 x18 x19 x20).2.1), .float .f32 ((r72 x0 x1 x2 x3 x4 x5 x6 x7 x8 x9 x10 x11 x12 x13 x14 x15 x16 x17 x18 x19 x20).2.2.1), .float .f32 ((r72 x0 x1 x2 x3 x4 x5 x6 x7 x8 x9 x10 x11 x12 x13 x14 x15 x16 x17 x18 x19 x20).2.2.2.1), .float .f32 ((r72 x0 x1 x2 x3 x4 x5 x6 x7 x8 x9 x10 x11 x12 x13 x14 x15 x16 x17 x18 x19 x20).2.2.2.2.1), .float .f32 ((r72 x0 x1 x2 x3 x4 x5 x6 x7 x8 x9 x10 x11 x12 x13 x14 x15 x16 x17 x18 x19 x20).2.2.2.2.2.1), .float .f32 ((r72 x0 x1 x2 x3 x4 x5 x6 x7 x8 x9 x10 x11 x12 x13 x14 x15 x16 x17 x18 x19 x20).2.2.2.2.2.2.1), .float .f32 ((r72 x0 x1 x2 x3 x4 x5 x6 x7 x8 x9 x10 x11 x12 x13 x14 x15 x16 x17 x18 x19 x20).2.2.2.2.2.2.2.1), .float .f32 ((r72 x0 x1 x2 x3 x4 x5 x6 x7 x8 x9 x10 x11 x12 x13 x14 x15 x16 x17 x18 x19 x20).2.2.2.2.2.2.2.2.1), .float .f32 ((r72 x0 x1 x2 x3 x4 x5 x6 x7 x8 x9 x10 x11 x12 x13 x14 x15 x16 x17 x18 x19 x20).2.2.2.2.2.2.2.2.2.1), .float .f32 ((r72 x0 x1 x2 x3 x4 x5 x6 x7 x8 x9 x10 x11 x12 x13 x14 x15 x16 x17 x18 x19 x20).2.2.2.2.2.2.2.2.2.2.1), .float .f32 ((r72 x0 x1 x2 x3 x4 x5 x6 x7 x8 x9 x10 x11 x12 x13 x14 x15 x16 x17 x18 x19 x20).2.2.2.2.2.2.2.2.2.2.2.1), .float .f32 ((r72 x0 x1 x2 x3 x4 x5 x6 x7 x8 x9 x10 x11 x12 x13 x14 x15 x16 x17 x18 x19 x20).2.2.2.2.2.2.2.2.2.2.2.2.1), .float .f32 ((r72 x0 x1 x2 x3 x4 x5 x6 x7 x8 x9 x10 x11 x12 x13 x14 x15 x16 x17 x18 x19 x20).2.2.2.2.2.2.2.2.2.2.2.2.2.1), .float .f32 ((r72 x0 x1 x2 x3 x4 x5 x6 x7 x8 x9 x10 x11 x12 x13 x14 x15 x16 x17 x18 x19 x20).2.2.2.2.2.2.2.2.2.2.2.2.2.2.1), .float .f32 ((r72 x0 x1 x2 x3 x4 x5 x6 x7 x8 x9 x10 x11 x12 x13 x14 x15 x16 x17 x18 x19 x20).2.2.2.2.2.2.2.2.2.2.2.2.2.2.2.1), .float .f32 ((r72 x0 x1 x2 x3 x4 x5 x6 x7 x8 x9 x10 x11 x12 x13 x14 x15 x16 x17 x18 x19 x20).2.2.2.2.2.2.2.2.2.2.2.2.2.2.2.2.1), .float .f32 ((r72 x0 x1 x2 x3 x4 x5 x6 x7 x8 x9 x10 x11 x12 x13 x14 x15 x16 x17 x18 x19 x20).2.2.2.2.2.2.2.2.2.2.2.2.2.2.2.2.2.1)], .float .f32 ((r72 x0 x1 x2 x3 x4 x5 x6 x7 x8 x9 x10 x11 x12 x13 x14 x15 x16 x17 x18 x19 x20).2.2.2.2.2.2.2.2.2.2.2.2.2.2.2.2.2.2.1), .float .f32 ((r72 x0 x1 x2 x3 x4 x5 x6 x7 x8 x9 x10 x11 x12 x13 x14 x15 x16 x17 x18 x19 x20).2.2.2.2.2.2.2.2.2.2.2.2.2.2.2.2.2.2.2.1), .float .f32 ((r72 x0 x1 x2 x3 x4 x5 x6 x7 x8 x9 x10 x11 x12 x13 x14 x15 x16 x17 x18 x19 x20).2.2.2.2.2.2.2.2.2.2.2.2.2.2.2.2.2.2.2.2.1), .int .i64 ((r72 x0 x1 x2 x3 x4 x5 x6 x7 x8 x9 x10 x11 x12 x13 x14 x15 x16 x17 x18 x19 x20).2.2.2.2.2.2.2.2.2.2.2.2.2.2.2.2.2.2.2.2.2)], ⟨[⟨true, (some (.cells [.float .f32 x3, .float .f32 x4, .float .f32 x5, .float .f32 x6, .float .f32 x7, .float .f32 x8, .float .f32 x9, .float .f32 x10, .float .f32 x11, .float .f32 x12, .float .f32 x13, .float .f32 x14, .float .f32 x15, .float .f32 x16, .float .f32 x17, .float .f32 x18, .float .f32 x19, .float .f32 x20]))⟩], 1, []⟩)] else T21 72 args s
 | _, _ => T21 72 args s
noncomputable def T22 : CallF := addF T21 72 s72
set_option maxRecDepth 100000 in
set_option maxHeartbeats 4000000 in
theorem ok22 : CfOk Try.prog T22 := by
  refine cfOk_add ok21 fun args s r s' h1 h2 h3 => ?_
  unfold s72 at h3; split at h3
  · rename_i h; split at h3
    · rename_i hc; obtain ⟨rfl, rfl, rfl⟩ := hc; exact callOk ok21 Try.func72 h1 h2 h (lfOkF_no _ _).body (e72 _ _ _ _ _ _ _ _ _ _ _ _ _ _ _ _ _ _ _ _ _) rfl h3
    · exact ok21 _ _ _ _ _ h1 h2 h3
  · exact ok21 _ _ _ _ _ h1 h2 h3

/-- spec.StepsToDry, loop 0: one round -/
noncomputable def b28l0 (ih : Nat → Nat → Int → Int → Nat → Nat → Nat → Nat → Nat → Nat → Nat → Nat → Nat → Nat → Nat → Nat → Nat → Nat → Nat → Nat → Nat → Nat → (Nat × Int × Int × Nat × Nat × Nat × Nat × Nat × Nat × Nat × Nat × Nat × Nat × Nat × Nat × Nat × Nat × Nat × Nat × Nat × Nat)) (x0 x1 : Nat) (x2 x3 : Int) (x4 x5 x6 x7 x8 x9 x10 x11 x12 x13 x14 x15 x16 x17 x18 x19 x20 x21 : Nat) : Nat × Int × Int × Nat × Nat × Nat × Nat × Nat × Nat × Nat × Nat × Nat × Nat × Nat × Nat × Nat × Nat × Nat × Nat × Nat × Nat :=
 cond (flt .f32 (r58 x4 x5 x6 x7 x8 x9 x10 x11 x12 x13 x14 x15 x16 x17 x18 x19 x20 x21) 1015021568)
  (0, x3, 0, x4, x5, x6, x7, x8, x9, x10, x11, x12, x13, x14, x15, x16, x17, x18, x19, x20, x21)
  (cond ((x3 : Int) == x2)
  (0, 0, 7, x4, x5, x6, x7, x8, x9, x10, x11, x12, x13, x14, x15, x16, x17, x18, x19, x20, x21)
  (cond ((((r72 x0 0 x1 x4 x5 x6 x7 x8 x9 x10 x11 x12 x13 x14 x15 x16 x17 x18 x19 x20 x21).2.2.2.2.2.2.2.2.2.2.2.2.2.2.2.2.2.2.2.2.2) : Int) != 0)
  (0, 0, ((r72 x0 0 x1 x4 x5 x6 x7 x8 x9 x10 x11 x12 x13 x14 x15 x16 x17 x18 x19 x20 x21).2.2.2.2.2.2.2.2.2.2.2.2.2.2.2.2.2.2.2.2.2), x4, x5, x6, x7, x8, x9, x10, x11, x12, x13, x14, x15, x16, x17, x18, x19, x20, x21)
  (ih x0 x1 x2 (IntKind.i64.wrap (x3 + 1)) ((r72 x0 0 x1 x4 x5 x6 x7 x8 x9 x10 x11 x12 x13 x14 x15 x16 x17 x18 x19 x20 x21).1) ((r72 x0 0 x1 x4 x5 x6 x7 x8 x9 x10 x11 x12 x13 x14 x15 x16 x17 x18 x19 x20 x21).2.1) ((r72 x0 0 x1 x4 x5 x6 x7 x8 x9 x10 x11 x12 x13 x14 x15 x16 x17 x18 x19 x20 x21).2.2.1) ((r72 x0 0 x1 x4 x5 x6 x7 x8 x9 x10 x11 x12 x13 x14 x15 x16 x17 x18 x19 x20 x21).2.2.2.1) ((r72 x0 0 x1 x4 x5 x6 x7 x8 x9 x10 x11 x12 x13 x14 x15 x16 x17 x18 x19 x20 x21).2.2.2.2.1) ((r72 x0 0 x1 x4 x5 x6 x7 x8 x9 x10 x11 x12 x13 x14 x15 x16 x17 x18 x19 x20 x21).2.2.2.2.2.1) ((r72 x0 0 x1 x4 x5 x6 x7 x8 x9 x10 x11 x12 x13 x14 x15 x16 x17 x18 x19 x20 x21).2.2.2.2.2.2.1) ((r72 x0 0 x1 x4 x5 x6 x7 x8 x9 x10 x11 x12 x13 x14 x15 x16 x17 x18 x19 x20 x21).2.2.2.2.2.2.2.1) ((r72 x0 0 x1 x4 x5 x6 x7 x8 x9 x10 x11 x12 x13 x14 x15 x16 x17 x18 x19 x20 x21).2.2.2.2.2.2.2.2.1) ((r72 x0 0 x1 x4 x5 x6 x7 x8 x9 x10 x11 x12 x13 x14 x15 x16 x17 x18 x19 x20 x21).2.2.2.2.2.2.2.2.2.1) ((r72 x0 0 x1 x4 x5 x6 x7 x8 x9 x10 x11 x12 x13 x14 x15 x16 x17 x18 x19 x20 x21).2.2.2.2.2.2.2.2.2.2.1) ((r72 x0 0 x1 x4 x5 x6 x7 x8 x9 x10 x11 x12 x13 x14 x15 x16 x17 x18 x19 x20 x21).2.2.2.2.2.2.2.2.2.2.2.1) ((r72 x0 0 x1 x4 x5 x6 x7 x8 x9 x10 x11 x12 x13 x14 x15 x16 x17 x18 x19 x20 x21).2.2.2.2.2.2.2.2.2.2.2.2.1) ((r72 x0 0 x1 x4 x5 x6 x7 x8 x9 x10 x11 x12 x13 x14 x15 x16 x17 x18 x19 x20 x21).2.2.2.2.2.2.2.2.2.2.2.2.2.1) ((r72 x0 0 x1 x4 x5 x6 x7 x8 x9 x10 x11 x12 x13 x14 x15 x16 x17 x18 x19 x20 x21).2.2.2.2.2.2.2.2.2.2.2.2.2.2.1) ((r72 x0 0 x1 x4 x5 x6 x7 x8 x9 x10 x11 x12 x13 x14 x15 x16 x17 x18 x19 x20 x21).2.2.2.2.2.2.2.2.2.2.2.2.2.2.2.1) ((r72 x0 0 x1 x4 x5 x6 x7 x8 x9 x10 x11 x12 x13 x14 x15 x16 x17 x18 x19 x20 x21).2.2.2.2.2.2.2.2.2.2.2.2.2.2.2.2.1) ((r72 x0 0 x1 x4 x5 x6 x7 x8 x9 x10 x11 x12 x13 x14 x15 x16 x17 x18 x19 x20 x21).2.2.2.2.2.2.2.2.2.2.2.2.2.2.2.2.2.1))))
noncomputable def r28l0 : Nat → Nat → Nat → Int → Int → Nat → Nat → Nat → Nat → Nat → Nat → Nat → Nat → Nat → Nat → Nat → Nat → Nat → Nat → Nat → Nat → Nat → Nat → (Nat × Int × Int × Nat × Nat × Nat × Nat × Nat × Nat × Nat × Nat × Nat × Nat × Nat × Nat × Nat × Nat × Nat × Nat × Nat × Nat)
 | 0 => fun _ _ _ _ _ _ _ _ _ _ _ _ _ _ _ _ _ _ _ _ _ _ => (1, 0, 0, 0, 0, 0, 0, 0, 0, 0, 0, 0, 0, 0, 0, 0, 0, 0, 0, 0, 0)
 | m + 1 => b28l0 (r28l0 m)
noncomputable def a28l0 (x0 x1 : Nat) (x2 x3 : Int) (x4 x5 x6 x7 x8 x9 x10 x11 x12 x13 x14 x15 x16 x17 x18 x19 x20 x21 : Nat) (p : Nat × Int × Int × Nat × Nat × Nat × Nat × Nat × Nat × Nat × Nat × Nat × Nat × Nat × Nat × Nat × Nat × Nat × Nat × Nat × Nat) : Option (Fin' × List Value × St) := firstT ([((Nat.beq (p.1) 0), .ret, [.int .i64 (p.2.1), .int .i64 (p.2.2.1)], ⟨[⟨true, (some (.cells [.float .f32 (p.2.2.2.1), .float .f32 (p.2.2.2.2.1), .float .f32 (p.2.2.2.2.2.1), .float .f32 (p.2.2.2.2.2.2.1), .float .f32 (p.2.2.2.2.2.2.2.1), .float .f32 (p.2.2.2.2.2.2.2.2.1), .float .f32 (p.2.2.2.2.2.2.2.2.2.1), .float .f32 (p.2.2.2.2.2.2.2.2.2.2.1), .float .f32 (p.2.2.2.2.2.2.2.2.2.2.2.1), .float .f32 (p.2.2.2.2.2.2.2.2.2.2.2.2.1), .float .f32 (p.2.2.2.2.2.2.2.2.2.2.2.2.2.1), .float .f32 (p.2.2.2.2.2.2.2.2.2.2.2.2.2.2.1), .float .f32 (p.2.2.2.2.2.2.2.2.2.2.2.2.2.2.2.1), .float .f32 (p.2.2.2.2.2.2.2.2.2.2.2.2.2.2.2.2.1), .float .f32 (p.2.2.2.2.2.2.2.2.2.2.2.2.2.2.2.2.2.1), .float .f32 (p.2.2.2.2.2.2.2.2.2.2.2.2.2.2.2.2.2.2.1), .float .f32 (p.2.2.2.2.2.2.2.2.2.2.2.2.2.2.2.2.2.2.2.1), .float .f32 (p.2.2.2.2.2.2.2.2.2.2.2.2.2.2.2.2.2.2.2.2)]))⟩], 1, [0]⟩)].map fun (b, x) => (b, (x.1, frameOf 52 [8, 9] x.2.1, x.2.2)))
noncomputable def u28l0 (x0 x1 : Nat) (x2 x3 : Int) (x4 x5 x6 x7 x8 x9 x10 x11 x12 x13 x14 x15 x16 x17 x18 x19 x20 x21 : Nat) (p : Nat × Int × Int × Nat × Nat × Nat × Nat × Nat × Nat × Nat × Nat × Nat × Nat × Nat × Nat × Nat × Nat × Nat × Nat × Nat × Nat) : Option (Fin' × List Value × St) := alts ([((Nat.beq (p.1) 0), .ret, [.int .i64 (p.2.1), .int .i64 (p.2.2.1)], ⟨[⟨true, (some (.cells [.float .f32 (p.2.2.2.1), .float .f32 (p.2.2.2.2.1), .float .f32 (p.2.2.2.2.2.1), .float .f32 (p.2.2.2.2.2.2.1), .float .f32 (p.2.2.2.2.2.2.2.1), .float .f32 (p.2.2.2.2.2.2.2.2.1), .float .f32 (p.2.2.2.2.2.2.2.2.2.1), .float .f32 (p.2.2.2.2.2.2.2.2.2.2.1), .float .f32 (p.2.2.2.2.2.2.2.2.2.2.2.1), .float .f32 (p.2.2.2.2.2.2.2.2.2.2.2.2.1), .float .f32 (p.2.2.2.2.2.2.2.2.2.2.2.2.2.1), .float .f32 (p.2.2.2.2.2.2.2.2.2.2.2.2.2.2.1), .float .f32 (p.2.2.2.2.2.2.2.2.2.2.2.2.2.2.2.1), .float .f32 (p.2.2.2.2.2.2.2.2.2.2.2.2.2.2.2.2.1), .float .f32 (p.2.2.2.2.2.2.2.2.2.2.2.2.2.2.2.2.2.1), .float .f32 (p.2.2.2.2.2.2.2.2.2.2.2.2.2.2.2.2.2.2.1), .float .f32 (p.2.2.2.2.2.2.2.2.2.2.2.2.2.2.2.2.2.2.2.1), .float .f32 (p.2.2.2.2.2.2.2.2.2.2.2.2.2.2.2.2.2.2.2.2)]))⟩], 1, [0]⟩)].map fun (b, x) => (b, (x.1, frameOf 52 [8, 9] x.2.1, x.2.2))) some
theorem v28l0 (x0 x1 : Nat) (x2 x3 : Int) (x4 x5 x6 x7 x8 x9 x10 x11 x12 x13 x14 x15 x16 x17 x18 x19 x20 x21 : Nat) (p : Nat × Int × Int × Nat × Nat × Nat × Nat × Nat × Nat × Nat × Nat × Nat × Nat × Nat × Nat × Nat × Nat × Nat × Nat × Nat × Nat) : u28l0 x0 x1 x2 x3 x4 x5 x6 x7 x8 x9 x10 x11 x12 x13 x14 x15 x16 x17 x18 x19 x20 x21 p = a28l0 x0 x1 x2 x3 x4 x5 x6 x7 x8 x9 x10 x11 x12 x13 x14 x15 x16 x17 x18 x19 x20 x21 p := alts_first _
noncomputable def q28l0 (m : Nat) : SumK := fun vals s =>
 match vals, s.h with
 | [.float .f32 x0, .float .f32 x1, .int .i64 x2, .pointer (some ⟨f0, f1, some f2⟩), .int .i64 x3], [⟨true, some (.cells [.float .f32 x4, .float .f32 x5, .float .f32 x6, .float .f32 x7, .float .f32 x8, .float .f32 x9, .float .f32 x10, .float .f32 x11, .float .f32 x12, .float .f32 x13, .float .f32 x14, .float .f32 x15, .float .f32 x16, .float .f32 x17, .float .f32 x18, .float .f32 x19, .float .f32 x20, .float .f32 x21])⟩] => if f0 = 0 ∧ f1 = 0 ∧ f2 = 0 then [((Nat.beq ((r28l0 m x0 x1 x2 x3 x4 x5 x6 x7 x8 x9 x10 x11 x12 x13 x14 x15 x16 x17 x18 x19 x20 x21).1) 0), .ret, [.int .i64 ((r28l0 m x0 x1 x2 x3 x4 x5 x6 x7 x8 x9 x10 x11 x12 x13 x14 x15 x16 x17 x18 x19 x20 x21).2.1), .int .i64 ((r28l0 m x0 x1 x2 x3 x4 x5 x6 x7 x8 x9 x10 x11 x12 x13 x14 x15 x16 x17 x18 x19 x20 x21).2.2.1)], ⟨[⟨true, (some (.cells [.float .f32 ((r28l0 m x0 x1 x2 x3 x4 x5 x6 x7 x8 x9 x10 x11 x12 x13 x14 x15 x16 x17 x18 x19 x20 x21).2.2.2.1), .float .f32 ((r28l0 m x0 x1 x2 x3 x4 x5 x6 x7 x8 x9 x10 x11 x12 x13 x14 x15 x16 x17 x18 x19 x20 x21).2.2.2.2.1), .float .f32 ((r28l0 m x0 x1 x2 x3 x4 x5 x6 x7 x8 x9 x10 x11 x12 x13 x14 x15 x16 x17 x18 x19 x20 x21).2.2.2.2.2.1), .float .f32 ((r28l0 m x0 x1 x2 x3 x4 x5 x6 x7 x8 x9 x10 x11 x12 x13 x14 x15 x16 x17 x18 x19 x20 x21).2.2.2.2.2.2.1), .float .f32 ((r28l0 m x0 x1 x2 x3 x4 x5 x6 x7 x8 x9 x10 x11 x12 x13 x14 x15 x16 x17 x18 x19 x20 x21).2.2.2.2.2.2.2.1), .float .f32 ((r28l0 m x0 x1 x2 x3 x4 x5 x6 x7 x8 x9 x10 x11 x12 x13 x14 x15 x16 x17 x18 x19 x20 x21).2.2.2.2.2.2.2.2.1), .float .f32 ((r28l0 m x0 x1 x2 x3 x4 x5 x6 x7 x8 x9 x10 x11 x12 x13 x14 x15 x16 x17 x18 x19 x20 x21).2.2.2.2.2.2.2.2.2.1), .float .f32 ((r28l0 m x0 x1 x2 x3 x4 x5 x6 x7 x8 x9 x10 x11 x12 x13 x14 x15 x16 x17 x18 x19 x20 x21).2.2.2.2.2.2.2.2.2.2.1), .float .f32 ((r28l0 m x0 x1 x2 x3 x4 x5 x6 x7 x8 x9 x10 x11 x12 x13 x14 x15 x16 x17 x18 x19 x20 x21).2.2.2.2.2.2.2.2.2.2.2.1), .float .f32 ((r28l0 m x0 x1 x2 x3 x4 x5 x6 x7 x8 x9 x10 x11 x12 x13 x14 x15 x16 x17 x18 x19 x20 x21).2.2.2.2.2.2.2.2.2.2.2.2.1), .float .f32 ((r28l0 m x0 x1 x2 x3 x4 x5 x6 x7 x8 x9 x10 x11 x12 x13 x14 x15 x16 x17 x18 x19 x20 x21).2.2.2.2.2.2.2.2.2.2.2.2.2.1), .float .f32 ((r28l0 m x0 x1 x2 x3 x4 x5 x6 x7 x8 x9 x10 x11 x12 x13 x14 x15 x16 x17 x18 x19 x20 x21).2.2.2.2.2.2.2.2.2.2.2.2.2.2.1), .float .f32 ((r28l0 m x0 x1 x2 x3 x4 x5 x6 x7 x8 x9 x10 x11 x12 x13 x14 x15 x16 x17 x18 x19 x20 x21).2.2.2.2.2.2.2.2.2.2.2.2.2.2.2.1), .float .f32 ((r28l0 m x0 x1 x2 x3 x4 x5 x6 x7 x8 x9 x10 x11 x12 x13 x14 x15 x16 x17 x18 x19 x20 x21).2.2.2.2.2.2.2.2.2.2.2.2.2.2.2.2.1), .float .f32 ((r28l0 m x0 x1 x2 x3 x4 x5 x6 x7 x8 x9 x10 x11 x12 x13 x14 x15 x16 x17 x18 x19 x20 x21).2.2.2.2.2.2.2.2.2.2.2.2.2.2.2.2.2.1), .float .f32 ((r28l0 m x0 x1 x2 x3 x4 x5 x6 x7 x8 x9 x10 x11 x12 x13 x14 x15 x16 x17 x18 x19 x20 x21).2.2.2.2.2.2.2.2.2.2.2.2.2.2.2.2.2.2.1), .float .f32 ((r28l0 m x0 x1 x2 x3 x4 x5 x6 x7 x8 x9 x10 x11 x12 x13 x14 x15 x16 x17 x18 x19 x20 x21).2.2.2.2.2.2.2.2.2.2.2.2.2.2.2.2.2.2.2.1), .float .f32 ((r28l0 m x0 x1 x2 x3 x4 x5 x6 x7 x8 x9 x10 x11 x12 x13 x14 x15 x16 x17 x18 x19 x20 x21).2.2.2.2.2.2.2.2.2.2.2.2.2.2.2.2.2.2.2.2)]))⟩], 1, [0]⟩)] else noQ vals s
 | _, _ => noQ vals s
noncomputable def w28l0 (ih : Nat → Nat → Int → Int → Nat → Nat → Nat → Nat → Nat → Nat → Nat → Nat → Nat → Nat → Nat → Nat → Nat → Nat → Nat → Nat → Nat → Nat → (Nat × Int × Int × Nat × Nat × Nat × Nat × Nat × Nat × Nat × Nat × Nat × Nat × Nat × Nat × Nat × Nat × Nat × Nat × Nat × Nat)) (x0 x1 : Nat) (x2 x3 : Int) (x4 x5 x6 x7 x8 x9 x10 x11 x12 x13 x14 x15 x16 x17 x18 x19 x20 x21 : Nat) : Option (Fin' × List Value × St) :=
 (cond (flt .f32 (r58 x4 x5 x6 x7 x8 x9 x10 x11 x12 x13 x14 x15 x16 x17 x18 x19 x20 x21) 1015021568)
 (a28l0 x0 x1 x2 x3 x4 x5 x6 x7 x8 x9 x10 x11 x12 x13 x14 x15 x16 x17 x18 x19 x20 x21 (0, x3, 0, x4, x5, x6, x7, x8, x9, x10, x11, x12, x13, x14, x15, x16, x17, x18, x19, x20, x21))
 (cond ((x3 : Int) == x2)
  (a28l0 x0 x1 x2 x3 x4 x5 x6 x7 x8 x9 x10 x11 x12 x13 x14 x15 x16 x17 x18 x19 x20 x21 (0, 0, 7, x4, x5, x6, x7, x8, x9, x10, x11, x12, x13, x14, x15, x16, x17, x18, x19, x20, x21))
  (cond ((((r72 x0 0 x1 x4 x5 x6 x7 x8 x9 x10 x11 x12 x13 x14 x15 x16 x17 x18 x19 x20 x21).2.2.2.2.2.2.2.2.2.2.2.2.2.2.2.2.2.2.2.2.2) : Int) != 0)
  (a28l0 x0 x1 x2 x3 x4 x5 x6 x7 x8 x9 x10 x11 x12 x13 x14 x15 x16 x17 x18 x19 x20 x21 (0, 0, ((r72 x0 0 x1 x4 x5 x6 x7 x8 x9 x10 x11 x12 x13 x14 x15 x16 x17 x18 x19 x20 x21).2.2.2.2.2.2.2.2.2.2.2.2.2.2.2.2.2.2.2.2.2), x4, x5, x6, x7, x8, x9, x10, x11, x12, x13, x14, x15, x16, x17, x18, x19, x20, x21))
  (u28l0 x0 x1 x2 x3 x4 x5 x6 x7 x8 x9 x10 x11 x12 x13 x14 x15 x16 x17 x18 x19 x20 x21 (ih x0 x1 x2 (IntKind.i64.wrap (x3 + 1)) ((r72 x0 0 x1 x4 x5 x6 x7 x8 x9 x10 x11 x12 x13 x14 x15 x16 x17 x18 x19 x20 x21).1) ((r72 x0 0 x1 x4 x5 x6 x7 x8 x9 x10 x11 x12 x13 x14 x15 x16 x17 x18 x19 x20 x21).2.1) ((r72 x0 0 x1 x4 x5 x6 x7 x8 x9 x10 x11 x12 x13 x14 x15 x16 x17 x18 x19 x20 x21).2.2.1) ((r72 x0 0 x1 x4 x5 x6 x7 x8 x9 x10 x11 x12 x13 x14 x15 x16 x17 x18 x19 x20 x21).2.2.2.1) ((r72 x0 0 x1 x4 x5 x6 x7 x8 x9 x10 x11 x12 x13 x14 x15 x16 x17 x18 x19 x20 x21).2.2.2.2.1) ((r72 x0 0 x1 x4 x5 x6 x7 x8 x9 x10 x11 x12 x13 x14 x15 x16 x17 x18 x19 x20 x21).2.2.2.2.2.1) ((r72 x0 0 x1 x4 x5 x6 x7 x8 x9 x10 x11 x12 x13 x14 x15 x16 x17 x18 x19 x20 x21).2.2.2.2.2.2.1) ((r72 x0 0 x1 x4 x5 x6 x7 x8 x9 x10 x11 x12 x13 x14 x15 x16 x17 x18 x19 x20 x21).2.2.2.2.2.2.2.1) ((r72 x0 0 x1 x4 x5 x6 x7 x8 x9 x10 x11 x12 x13 x14 x15 x16 x17 x18 x19 x20 x21).2.2.2.2.2.2.2.2.1) ((r72 x0 0 x1 x4 x5 x6 x7 x8 x9 x10 x11 x12 x13 x14 x15 x16 x17 x18 x19 x20 x21).2.2.2.2.2.2.2.2.2.1) ((r72 x0 0 x1 x4 x5 x6 x7 x8 x9 x10 x11 x12 x13 x14 x15 x16 x17 x18 x19 x20 x21).2.2.2.2.2.2.2.2.2.2.1) ((r72 x0 0 x1 x4 x5 x6 x7 x8 x9 x10 x11 x12 x13 x14 x15 x16 x17 x18 x19 x20 x21).2.2.2.2.2.2.2.2.2.2.2.1) ((r72 x0 0 x1 x4 x5 x6 x7 x8 x9 x10 x11 x12 x13 x14 x15 x16 x17 x18 x19 x20 x21).2.2.2.2.2.2.2.2.2.2.2.2.1) ((r72 x0 0 x1 x4 x5 x6 x7 x8 x9 x10 x11 x12 x13 x14 x15 x16 x17 x18 x19 x20 x21).2.2.2.2.2.2.2.2.2.2.2.2.2.1) ((r72 x0 0 x1 x4 x5 x6 x7 x8 x9 x10 x11 x12 x13 x14 x15 x16 x17 x18 x19 x20 x21).2.2.2.2.2.2.2.2.2.2.2.2.2.2.1) ((r72 x0 0 x1 x4 x5 x6 x7 x8 x9 x10 x11 x12 x13 x14 x15 x16 x17 x18 x19 x20 x21).2.2.2.2.2.2.2.2.2.2.2.2.2.2.2.1) ((r72 x0 0 x1 x4 x5 x6 x7 x8 x9 x10 x11 x12 x13 x14 x15 x16 x17 x18 x19 x20 x21).2.2.2.2.2.2.2.2.2.2.2.2.2.2.2.2.1) ((r72 x0 0 x1 x4 x5 x6 x7 x8 x9 x10 x11 x12 x13 x14 x15 x16 x17 x18 x19 x20 x21).2.2.2.2.2.2.2.2.2.2.2.2.2.2.2.2.2.1))))))
set_option maxRecDepth 100000 in
set_option maxHeartbeats 4000000 in
theorem e28l0 (m : Nat) (x0 x1 : Nat) (x2 x3 : Int) (x4 x5 x6 x7 x8 x9 x10 x11 x12 x13 x14 x15 x16 x17 x18 x19 x20 x21 : Nat) : evC Try.prog ext T22 noL 200 (loopN Try.f28 0) (loopTail ([1, 2, 3, 4, 11], []) [8, 9] [0] (sumK 52 [1, 2, 3, 4, 11] [8, 9] (q28l0 m))) (frameOf 52 [1, 2, 3, 4, 11] [.float .f32 x0, .float .f32 x1, .int .i64 x2, .pointer (some ⟨0, 0, some 0⟩), .int .i64 x3]) ⟨[⟨true, (some (.cells [.float .f32 x4, .float .f32 x5, .float .f32 x6, .float .f32 x7, .float .f32 x8, .float .f32 x9, .float .f32 x10, .float .f32 x11, .float .f32 x12, .float .f32 x13, .float .f32 x14, .float .f32 x15, .float .f32 x16, .float .f32 x17, .float .f32 x18, .float .f32 x19, .float .f32 x20, .float .f32 x21]))⟩], 1, []⟩ = firstT ([((Nat.beq ((r28l0 (m + 1) x0 x1 x2 x3 x4 x5 x6 x7 x8 x9 x10 x11 x12 x13 x14 x15 x16 x17 x18 x19 x20 x21).1) 0), .ret, [.int .i64 ((r28l0 (m + 1) x0 x1 x2 x3 x4 x5 x6 x7 x8 x9 x10 x11 x12 x13 x14 x15 x16 x17 x18 x19 x20 x21).2.1), .int .i64 ((r28l0 (m + 1) x0 x1 x2 x3 x4 x5 x6 x7 x8 x9 x10 x11 x12 x13 x14 x15 x16 x17 x18 x19 x20 x21).2.2.1)], ⟨[⟨true, (some (.cells [.float .f32 ((r28l0 (m + 1) x0 x1 x2 x3 x4 x5 x6 x7 x8 x9 x10 x11 x12 x13 x14 x15 x16 x17 x18 x19 x20 x21).2.2.2.1), .float .f32 ((r28l0 (m + 1) x0 x1 x2 x3 x4 x5 x6 x7 x8 x9 x10 x11 x12 x13 x14 x15 x16 x17 x18 x19 x20 x21).2.2.2.2.1), .float .f32 ((r28l0 (m + 1) x0 x1 x2 x3 x4 x5 x6 x7 x8 x9 x10 x11 x12 x13 x14 x15 x16 x17 x18 x19 x20 x21).2.2.2.2.2.1), .float .f32 ((r28l0 (m + 1) x0 x1 x2 x3 x4 x5 x6 x7 x8 x9 x10 x11 x12 x13 x14 x15 x16 x17 x18 x19 x20 x21).2.2.2.2.2.2.1), .float .f32 ((r28l0 (m + 1) x0 x1 x2 x3 x4 x5 x6 x7 x8 x9 x10 x11 x12 x13 x14 x15 x16 x17 x18 x19 x20 x21).2.2.2.2.2.2.2.1), .float .f32 ((r28l0 (m + 1) x0 x1 x2 x3 x4 x5 x6 x7 x8 x9 x10 x11 x12 x13 x14 x15 x16 x17 x18 x19 x20 x21).2.2.2.2.2.2.2.2.1), .float .f32 ((r28l0 (m + 1) x0 x1 x2 x3 x4 x5 x6 x7 x8 x9 x10 x11 x12 x13 x14 x15 x16 x17 x18 x19 x20 x21).2.2.2.2.2.2.2.2.2.1), .float .f32 ((r28l0 (m + 1) x0 x1 x2 x3 x4 x5 x6 x7 x8 x9 x10 x11 x12 x13 x14 x15 x16 x17 x18 x19 x20 x21).2.2.2.2.2.2.2.2.2.2.1), .float .f32 ((r28l0 (m + 1) x0 x1 x2 x3 x4 x5 x6 x7 x8 x9 x10 x11 x12 x13 x14 x15 x16 x17 x18 x19 x20 x21).2.2.2.2.2.2.2.2.2.2.2.1), .float .f32 ((r28l0 (m + 1) x0 x1 x2 x3 x4 x5 x6 x7 x8 x9 x10 x11 x12 x13 x14 x15 x16 x17 x18 x19 x20 x21).2.2.2.2.2.2.2.2.2.2.2.2.1), .float .f32 ((r28l0 (m + 1) x0 x1 x2 x3 x4 x5 x6 x7 x8 x9 x10 x11 x12 x13 x14 x15 x16 x17 x18 x19 x20 x21).2.2.2.2.2.2.2.2.2.2.2.2.2.1), .float .f32 ((r28l0 (m + 1) x0 x1 x2 x3 x4 x5 x6 x7 x8 x9 x10 x11 x12 x13 x14 x15 x16 x17 x18 x19 x20 x21).2.2.2.2.2.2.2.2.2.2.2.2.2.2.1), .float .f32 ((r28l0 (m + 1) x0 x1 x2 x3 x4 x5 x6 x7 x8 x9 x10 x11 x12 x13 x14 x15 x16 x17 x18 x19 x20 x21).2.2.2.2.2.2.2.2.2.2.2.2.2.2.2.1), .float .f32 ((r28l0 (m + 1) x0 x1 x2 x3 x4 x5 x6 x7 x8 x9 x10 x11 x12 x13 x14 x15 x16 x17 x18 x19 x20 x21).2.2.2.2.2.2.2.2.2.2.2.2.2.2.2.2.1), .float .f32 ((r28l0 (m + 1) x0 x1 x2 x3 x4 x5 x6 x7 x8 x9 x10 x11 x12 x13 x14 x15 x16 x17 x18 x19 x20 x21).2.2.2.2.2.2.2.2.2.2.2.2.2.2.2.2.2.1), .float .f32 ((r28l0 (m + 1) x0 x1 x2 x3 x4 x5 x6 x7 x8 x9 x10 x11 x12 x13 x14 x15 x16 x17 x18 x19 x20 x21).2.2.2.2.2.2.2.2.2.2.2.2.2.2.2.2.2.2.1), .float .f32 ((r28l0 (m + 1) x0 x1 x2 x3 x4 x5 x6 x7 x8 x9 x10 x11 x12 x13 x14 x15 x16 x17 x18 x19 x20 x21).2.2.2.2.2.2.2.2.2.2.2.2.2.2.2.2.2.2.2.1), .float .f32 ((r28l0 (m + 1) x0 x1 x2 x3 x4 x5 x6 x7 x8 x9 x10 x11 x12 x13 x14 x15 x16 x17 x18 x19 x20 x21).2.2.2.2.2.2.2.2.2.2.2.2.2.2.2.2.2.2.2.2)]))⟩], 1, [0]⟩)].map fun (b, x) => (b, (x.1, frameOf 52 [8, 9] x.2.1, x.2.2))) :=
 (show evC Try.prog ext T22 noL 200 (loopN Try.f28 0) (loopTail ([1, 2, 3, 4, 11], []) [8, 9] [0] (sumK 52 [1, 2, 3, 4, 11] [8, 9] (q28l0 m))) (frameOf 52 [1, 2, 3, 4, 11] [.float .f32 x0, .float .f32 x1, .int .i64 x2, .pointer (some ⟨0, 0, some 0⟩), .int .i64 x3]) ⟨[⟨true, (some (.cells [.float .f32 x4, .float .f32 x5, .float .f32 x6, .float .f32 x7, .float .f32 x8, .float .f32 x9, .float .f32 x10, .float .f32 x11, .float .f32 x12, .float .f32 x13, .float .f32 x14, .float .f32 x15, .float .f32 x16, .float .f32 x17, .float .f32 x18, .float .f32 x19, .float .f32 x20, .float .f32 x21]))⟩], 1, []⟩ = w28l0 (r28l0 m) x0 x1 x2 x3 x4 x5 x6 x7 x8 x9 x10 x11 x12 x13 x14 x15 x16 x17 x18 x19 x20 x21 from by kernel_rfl).trans
 (show w28l0 (r28l0 m) x0 x1 x2 x3 x4 x5 x6 x7 x8 x9 x10 x11 x12 x13 x14 x15 x16 x17 x18 x19 x20 x21 = a28l0 x0 x1 x2 x3 x4 x5 x6 x7 x8 x9 x10 x11 x12 x13 x14 x15 x16 x17 x18 x19 x20 x21 (r28l0 (m + 1) x0 x1 x2 x3 x4 x5 x6 x7 x8 x9 x10 x11 x12 x13 x14 x15 x16 x17 x18 x19 x20 x21) from by unfold w28l0; show _ = a28l0 x0 x1 x2 x3 x4 x5 x6 x7 x8 x9 x10 x11 x12 x13 x14 x15 x16 x17 x18 x19 x20 x21 (b28l0 (r28l0 m) x0 x1 x2 x3 x4 x5 x6 x7 x8 x9 x10 x11 x12 x13 x14 x15 x16 x17 x18 x19 x20 x21); unfold b28l0; exact (cond_app (a28l0 x0 x1 x2 x3 x4 x5 x6 x7 x8 x9 x10 x11 x12 x13 x14 x15 x16 x17 x18 x19 x20 x21) _ rfl (cond_app (a28l0 x0 x1 x2 x3 x4 x5 x6 x7 x8 x9 x10 x11 x12 x13 x14 x15 x16 x17 x18 x19 x20 x21) _ rfl (cond_app (a28l0 x0 x1 x2 x3 x4 x5 x6 x7 x8 x9 x10 x11 x12 x13 x14 x15 x16 x17 x18 x19 x20 x21) _ rfl (v28l0 x0 x1 x2 x3 x4 x5 x6 x7 x8 x9 x10 x11 x12 x13 x14 x15 x16 x17 x18 x19 x20 x21 ((r28l0 m) x0 x1 x2 (IntKind.i64.wrap (x3 + 1)) ((r72 x0 0 x1 x4 x5 x6 x7 x8 x9 x10 x11 x12 x13 x14 x15 x16 x17 x18 x19 x20 x21).1) ((r72 x0 0 x1 x4 x5 x6 x7 x8 x9 x10 x11 x12 x13 x14 x15 x16 x17 x18 x19 x20 x21).2.1) ((r72 x0 0 x1 x4 x5 x6 x7 x8 x9 x10 x11 x12 x13 x14 x15 x16 x17 x18 x19 x20 x21).2.2.1) ((r72 x0 0 x1 x4 x5 x6 x7 x8 x9 x10 x11 x12 x13 x14 x15 x16 x17 x18 x19 x20 x21).2.2.2.1) ((r72 x0 0 x1 x4 x5 x6 x7 x8 x9 x10 x11 x12 x13 x14 x15 x16 x17 x18 x19 x20 x21).2.2.2.2.1) ((r72 x0 0 x1 x4 x5 x6 x7 x8 x9 x10 x11 x12 x13 x14 x15 x16 x17 x18 x19 x20 x21).2.2.2.2.2.1) ((r72 x0 0 x1 x4 x5 x6 x7 x8 x9 x10 x11 x12 x13 x14 x15 x16 x17 x18 x19 x20 x21).2.2.2.2.2.2.1) ((r72 x0 0 x1 x4 x5 x6 x7 x8 x9 x10 x11 x12 x13 x14 x15 x16 x17 x18 x19 x20 x21).2.2.2.2.2.2.2.1) ((r72 x0 0 x1 x4 x5 x6 x7 x8 x9 x10 x11 x12 x13 x14 x15 x16 x17 x18 x19 x20 x21).2.2.2.2.2.2.2.2.1) ((r72 x0 0 x1 x4 x5 x6 x7 x8 x9 x10 x11 x12 x13 x14 x15 x16 x17 x18 x19 x20 x21).2.2.2.2.2.2.2.2.2.1) ((r72 x0 0 x1 x4 x5 x6 x7 x8 x9 x10 x11 x12 x13 x14 x15 x16 x17 x18 x19 x20 x21).2.2.2.2.2.2.2.2.2.2.1) ((r72 x0 0 x1 x4 x5 x6 x7 x8 x9 x10 x11 x12 x13 x14 x15 x16 x17 x18 x19 x20 x21).2.2.2.2.2.2.2.2.2.2.2.1) ((r72 x0 0 x1 x4 x5 x6 x7 x8 x9 x10 x11 x12 x13 x14 x15 x16 x17 x18 x19 x20 x21).2.2.2.2.2.2.2.2.2.2.2.2.1) ((r72 x0 0 x1 x4 x5 x6 x7 x8 x9 x10 x11 x12 x13 x14 x15 x16 x17 x18 x19 x20 x21).2.2.2.2.2.2.2.2.2.2.2.2.2.1) ((r72 x0 0 x1 x4 x5 x6 x7 x8 x9 x10 x11 x12 x13 x14 x15 x16 x17 x18 x19 x20 x21).2.2.2.2.2.2.2.2.2.2.2.2.2.2.1) ((r72 x0 0 x1 x4 x5 x6 x7 x8 x9 x10 x11 x12 x13 x14 x15 x16 x17 x18 x19 x20 x21).2.2.2.2.2.2.2.2.2.2.2.2.2.2.2.1) ((r72 x0 0 x1 x4 x5 x6 x7 x8 x9 x10 x11 x12 x13 x14 x15 x16 x17 x18 x19 x20 x21).2.2.2.2.2.2.2.2.2.2.2.2.2.2.2.2.1) ((r72 x0 0 x1 x4 x5 x6 x7 x8 x9 x10 x11 x12 x13 x14 x15 x16 x17 x18 x19 x20 x21).2.2.2.2.2.2.2.2.2.2.2.2.2.2.2.2.2.1)))))))
set_option maxRecDepth 100000 in
set_option maxHeartbeats 4000000 in
theorem qm28l0 : ∀ m, SumKOk Try.prog (loopN Try.f28 0) 52 [1, 2, 3, 4, 11] [8, 9] (q28l0 m) := by
  intro m
  induction m with
  | zero =>
    intro vals s x h1 h2 h3
    unfold q28l0 at h3; split at h3
    · rename_i h; split at h3
      · rename_i hc; obtain ⟨rfl, rfl, rfl⟩ := hc; exact absurd h3 (by simp [r28l0, firstT, Nat.beq])
      · exact noQ_ok _ _ _ h1 h2 h3
    · exact noQ_ok _ _ _ h1 h2 h3
  | succ m ih =>
    intro vals s x h1 h2 h3
    unfold q28l0 at h3; split at h3
    · rename_i h; split at h3
      · rename_i hc; obtain ⟨rfl, rfl, rfl⟩ := hc; exact sum_step ok22 extOk mixed ((lfOkF_no _ _).inner (by kernel_rfl)) ih h1 h2 h (e28l0 m _ _ _ _ _ _ _ _ _ _ _ _ _ _ _ _ _ _ _ _ _ _) rfl h3
      · exact noQ_ok _ _ _ h1 h2 h3
    · exact noQ_ok _ _ _ h1 h2 h3
noncomputable def Q28l0 : SumK := fun vals s => q28l0 (fuelOf vals s.h) vals s
theorem qok28l0 : SumKOk Try.prog (loopN Try.f28 0) 52 [1, 2, 3, 4, 11] [8, 9] Q28l0 := fuel_ok qm28l0 fuelOf
noncomputable def L28_1 : LoopT := addL noL 9 ([1, 2, 3, 4, 11], []) (sumK 52 [1, 2, 3, 4, 11] [8, 9] Q28l0)
theorem lok28_1 : LfOkF Try.prog L28_1 Try.f28 := lfOkF_add (lfOkF_no _ _) qok28l0 (by kernel_rfl) (by kernel_rfl) (by kernel_rfl)

/-- spec.StepsToDry -/
noncomputable def r28 (x0 x1 x2 x3 x4 x5 x6 x7 x8 x9 x10 x11 x12 x13 x14 x15 x16 x17 x18 x19 : Nat) (x20 : Int) : Nat × Int × Int :=
 cond (((r70 x18 0 x19 x0 x1 x2 x3 x4 x5 x6 x7 x8 x9 x10 x11 x12 x13 x14 x15 x16 x17) : Int) == 0)
  (cond (!(r71 x20 0 300))
  (0, 0, 2)
  (cond (((r70 x18 0 x19 x0 x1 x2 x3 x4 x5 x6 x7 x8 x9 x10 x11 x12 x13 x14 x15 x16 x17) : Int) != 0)
  (0, 0, (r70 x18 0 x19 x0 x1 x2 x3 x4 x5 x6 x7 x8 x9 x10 x11 x12 x13 x14 x15 x16 x17))
  (cond (Nat.beq ((r28l0 1000 x18 x19 x20 0 x0 x1 x2 x3 x4 x5 x6 x7 x8 x9 x10 x11 x12 x13 x14 x15 x16 x17).1) 0)
  (0, ((r28l0 1000 x18 x19 x20 0 x0 x1 x2 x3 x4 x5 x6 x7 x8 x9 x10 x11 x12 x13 x14 x15 x16 x17).2.1), ((r28l0 1000 x18 x19 x20 0 x0 x1 x2 x3 x4 x5 x6 x7 x8 x9 x10 x11 x12 x13 x14 x15 x16 x17).2.2.1))
  (1, 0, 0))))
  (cond (((r70 x18 0 x19 x0 x1 x2 x3 x4 x5 x6 x7 x8 x9 x10 x11 x12 x13 x14 x15 x16 x17) : Int) != 0)
  (0, 0, (r70 x18 0 x19 x0 x1 x2 x3 x4 x5 x6 x7 x8 x9 x10 x11 x12 x13 x14 x15 x16 x17))
  (cond (Nat.beq ((r28l0 1000 x18 x19 x20 0 x0 x1 x2 x3 x4 x5 x6 x7 x8 x9 x10 x11 x12 x13 x14 x15 x16 x17).1) 0)
  (0, ((r28l0 1000 x18 x19 x20 0 x0 x1 x2 x3 x4 x5 x6 x7 x8 x9 x10 x11 x12 x13 x14 x15 x16 x17).2.1), ((r28l0 1000 x18 x19 x20 0 x0 x1 x2 x3 x4 x5 x6 x7 x8 x9 x10 x11 x12 x13 x14 x15 x16 x17).2.2.1))
  (1, 0, 0)))
noncomputable def a28 (x0 x1 x2 x3 x4 x5 x6 x7 x8 x9 x10 x11 x12 x13 x14 x15 x16 x17 x18 x19 : Nat) (x20 : Int) (p : Nat × Int × Int) : Res := firstT [((Nat.beq (p.1) 0), .tuple #[.int .i64 (p.2.1), .int .i64 (p.2.2)], st0)]
noncomputable def w28 (x0 x1 x2 x3 x4 x5 x6 x7 x8 x9 x10 x11 x12 x13 x14 x15 x16 x17 x18 x19 : Nat) (x20 : Int) : Res :=
 (cond (((r70 x18 0 x19 x0 x1 x2 x3 x4 x5 x6 x7 x8 x9 x10 x11 x12 x13 x14 x15 x16 x17) : Int) == 0)
 (cond (!(r71 x20 0 300))
  (a28 x0 x1 x2 x3 x4 x5 x6 x7 x8 x9 x10 x11 x12 x13 x14 x15 x16 x17 x18 x19 x20 (0, 0, 2))
  (cond (((r70 x18 0 x19 x0 x1 x2 x3 x4 x5 x6 x7 x8 x9 x10 x11 x12 x13 x14 x15 x16 x17) : Int) != 0)
  (a28 x0 x1 x2 x3 x4 x5 x6 x7 x8 x9 x10 x11 x12 x13 x14 x15 x16 x17 x18 x19 x20 (0, 0, (r70 x18 0 x19 x0 x1 x2 x3 x4 x5 x6 x7 x8 x9 x10 x11 x12 x13 x14 x15 x16 x17)))
  (cond (Nat.beq ((r28l0 1000 x18 x19 x20 0 x0 x1 x2 x3 x4 x5 x6 x7 x8 x9 x10 x11 x12 x13 x14 x15 x16 x17).1) 0)
  (a28 x0 x1 x2 x3 x4 x5 x6 x7 x8 x9 x10 x11 x12 x13 x14 x15 x16 x17 x18 x19 x20 (0, ((r28l0 1000 x18 x19 x20 0 x0 x1 x2 x3 x4 x5 x6 x7 x8 x9 x10 x11 x12 x13 x14 x15 x16 x17).2.1), ((r28l0 1000 x18 x19 x20 0 x0 x1 x2 x3 x4 x5 x6 x7 x8 x9 x10 x11 x12 x13 x14 x15 x16 x17).2.2.1)))
  none)))
 (cond (((r70 x18 0 x19 x0 x1 x2 x3 x4 x5 x6 x7 x8 x9 x10 x11 x12 x13 x14 x15 x16 x17) : Int) != 0)
  (a28 x0 x1 x2 x3 x4 x5 x6 x7 x8 x9 x10 x11 x12 x13 x14 x15 x16 x17 x18 x19 x20 (0, 0, (r70 x18 0 x19 x0 x1 x2 x3 x4 x5 x6 x7 x8 x9 x10 x11 x12 x13 x14 x15 x16 x17)))
  (cond (Nat.beq ((r28l0 1000 x18 x19 x20 0 x0 x1 x2 x3 x4 x5 x6 x7 x8 x9 x10 x11 x12 x13 x14 x15 x16 x17).1) 0)
  (a28 x0 x1 x2 x3 x4 x5 x6 x7 x8 x9 x10 x11 x12 x13 x14 x15 x16 x17 x18 x19 x20 (0, ((r28l0 1000 x18 x19 x20 0 x0 x1 x2 x3 x4 x5 x6 x7 x8 x9 x10 x11 x12 x13 x14 x15 x16 x17).2.1), ((r28l0 1000 x18 x19 x20 0 x0 x1 x2 x3 x4 x5 x6 x7 x8 x9 x10 x11 x12 x13 x14 x15 x16 x17).2.2.1)))
  none)))
set_option maxRecDepth 100000 in
set_option maxHeartbeats 4000000 in
theorem e28 (x0 x1 x2 x3 x4 x5 x6 x7 x8 x9 x10 x11 x12 x13 x14 x15 x16 x17 x18 x19 : Nat) (x20 : Int) : evFn Try.prog ext T22 L28_1 200 Try.f28 [.agg #[.float .f32 x0, .float .f32 x1, .float .f32 x2, .float .f32 x3, .float .f32 x4, .float .f32 x5, .float .f32 x6, .float .f32 x7, .float .f32 x8, .float .f32 x9, .float .f32 x10, .float .f32 x11, .float .f32 x12, .float .f32 x13, .float .f32 x14, .float .f32 x15, .float .f32 x16, .float .f32 x17], .float .f32 x18, .float .f32 x19, .int .i64 x20] st0 = firstT [((Nat.beq ((r28 x0 x1 x2 x3 x4 x5 x6 x7 x8 x9 x10 x11 x12 x13 x14 x15 x16 x17 x18 x19 x20).1) 0), .tuple #[.int .i64 ((r28 x0 x1 x2 x3 x4 x5 x6 x7 x8 x9 x10 x11 x12 x13 x14 x15 x16 x17 x18 x19 x20).2.1), .int .i64 ((r28 x0 x1 x2 x3 x4 x5 x6 x7 x8 x9 x10 x11 x12 x13 x14 x15 x16 x17 x18 x19 x20).2.2)], st0)] :=
 (show evFn Try.prog ext T22 L28_1 200 Try.f28 [.agg #[.float .f32 x0, .float .f32 x1, .float .f32 x2, .float .f32 x3, .float .f32 x4, .float .f32 x5, .float .f32 x6, .float .f32 x7, .float .f32 x8, .float .f32 x9, .float .f32 x10, .float .f32 x11, .float .f32 x12, .float .f32 x13, .float .f32 x14, .float .f32 x15, .float .f32 x16, .float .f32 x17], .float .f32 x18, .float .f32 x19, .int .i64 x20] st0 = w28 x0 x1 x2 x3 x4 x5 x6 x7 x8 x9 x10 x11 x12 x13 x14 x15 x16 x17 x18 x19 x20 from by kernel_rfl).trans
 (show w28 x0 x1 x2 x3 x4 x5 x6 x7 x8 x9 x10 x11 x12 x13 x14 x15 x16 x17 x18 x19 x20 = a28 x0 x1 x2 x3 x4 x5 x6 x7 x8 x9 x10 x11 x12 x13 x14 x15 x16 x17 x18 x19 x20 (r28 x0 x1 x2 x3 x4 x5 x6 x7 x8 x9 x10 x11 x12 x13 x14 x15 x16 x17 x18 x19 x20) from by unfold w28 r28; exact (cond_app (a28 x0 x1 x2 x3 x4 x5 x6 x7 x8 x9 x10 x11 x12 x13 x14 x15 x16 x17 x18 x19 x20) _ (cond_app (a28 x0 x1 x2 x3 x4 x5 x6 x7 x8 x9 x10 x11 x12 x13 x14 x15 x16 x17 x18 x19 x20) _ rfl (cond_app (a28 x0 x1 x2 x3 x4 x5 x6 x7 x8 x9 x10 x11 x12 x13 x14 x15 x16 x17 x18 x19 x20) _ rfl (cond_app (a28 x0 x1 x2 x3 x4 x5 x6 x7 x8 x9 x10 x11 x12 x13 x14 x15 x16 x17 x18 x19 x20) _ rfl rfl))) (cond_app (a28 x0 x1 x2 x3 x4 x5 x6 x7 x8 x9 x10 x11 x12 x13 x14 x15 x16 x17 x18 x19 x20) _ rfl (cond_app (a28 x0 x1 x2 x3 x4 x5 x6 x7 x8 x9 x10 x11 x12 x13 x14 x15 x16 x17 x18 x19 x20) _ rfl rfl))))
noncomputable def s28 (args : List Value) (s : St) : List (Bool × Value × St) :=
 match args, s.h with
 | [.agg ⟨[.float .f32 x0, .float .f32 x1, .float .f32 x2, .float .f32 x3, .float .f32 x4, .float .f32 x5, .float .f32 x6, .float .f32 x7, .float .f32 x8, .float .f32 x9, .float .f32 x10, .float .f32 x11, .float .f32 x12, .float .f32 x13, .float .f32 x14, .float .f32 x15, .float .f32 x16, .float .f32 x17]⟩, .float .f32 x18, .float .f32 x19, .int .i64 x20], [] => [((Nat.beq ((r28 x0 x1 x2 x3 x4 x5 x6 x7 x8 x9 x10 x11 x12 x13 x14 x15 x16 x17 x18 x19 x20).1) 0), .tuple #[.int .i64 ((r28 x0 x1 x2 x3 x4 x5 x6 x7 x8 x9 x10 x11 x12 x13 x14 x15 x16 x17 x18 x19 x20).2.1), .int .i64 ((r28 x0 x1 x2 x3 x4 x5 x6 x7 x8 x9 x10 x11 x12 x13 x14 x15 x16 x17 x18 x19 x20).2.2)], st0)]
 | _, _ => T22 28 args s
noncomputable def T23 : CallF := addF T22 28 s28
set_option maxRecDepth 100000 in
set_option maxHeartbeats 4000000 in
theorem ok23 : CfOk Try.prog T23 := by
  refine cfOk_add ok22 fun args s r s' h1 h2 h3 => ?_
  unfold s28 at h3; split at h3
  · rename_i h; exact callOk ok22 Try.func28 h1 h2 h lok28_1.body (e28 _ _ _ _ _ _ _ _ _ _ _ _ _ _ _ _ _ _ _ _ _) rfl h3
  · exact ok22 _ _ _ _ _ h1 h2 h3

/-- math.IsNaN -/
noncomputable def r121 (x0 : Nat) : Bool :=
 ((!feq .f64 x0 x0))
noncomputable def a121 (x0 : Nat) (p : Bool) : Res := firstT [(true, .bool p, st0)]
noncomputable def w121 (x0 : Nat) : Res :=
 (a121 x0 ((!feq .f64 x0 x0)))
set_option maxRecDepth 100000 in
set_option maxHeartbeats 4000000 in
theorem e121 (x0 : Nat) : evFn Try.prog ext T23 noL 200 Try.f121 [.float .f64 x0] st0 = firstT [(true, .bool (r121 x0), st0)] :=
 (show evFn Try.prog ext T23 noL 200 Try.f121 [.float .f64 x0] st0 = w121 x0 from by kernel_rfl).trans
 (show w121 x0 = a121 x0 (r121 x0) from by unfold w121 r121; exact rfl)
noncomputable def s121 (args : List Value) (s : St) : List (Bool × Value × St) :=
 match args, s.h with
 | [.float .f64 x0], [] => [(true, .bool (r121 x0), st0)]
 | _, _ => T23 121 args s
noncomputable def T24 : CallF := addF T23 121 s121
set_option maxRecDepth 100000 in
set_option maxHeartbeats 4000000 in
theorem ok24 : CfOk Try.prog T24 := by
  refine cfOk_add ok23 fun args s r s' h1 h2 h3 => ?_
  unfold s121 at h3; split at h3
  · rename_i h; exact callOk ok23 Try.func121 h1 h2 h (lfOkF_no _ _).body (e121 _) rfl h3
  · exact ok23 _ _ _ _ _ h1 h2 h3

/-- math.Abs -/
noncomputable def r126 (x0 : Nat) : Nat :=
 cond (!isN .f64 x0)
  ((Int.toNat (bits .andNot .u64 ((x0 : Nat) : Int) 9223372036854775808)))
  (9221120237041090560)
noncomputable def a126 (x0 : Nat) (p : Nat) : Res := firstT [(true, .float .f64 p, st0)]
noncomputable def w126 (x0 : Nat) : Res :=
 (cond (!isN .f64 x0)
 (a126 x0 ((Int.toNat (bits .andNot .u64 ((x0 : Nat) : Int) 9223372036854775808))))
 (a126 x0 (9221120237041090560)))
set_option maxRecDepth 100000 in
set_option maxHeartbeats 4000000 in
theorem e126 (x0 : Nat) : evFn Try.prog ext T24 noL 200 Try.f126 [.float .f64 x0] st0 = firstT [(true, .float .f64 (r126 x0), st0)] :=
 (show evFn Try.prog ext T24 noL 200 Try.f126 [.float .f64 x0] st0 = w126 x0 from by kernel_rfl).trans
 (show w126 x0 = a126 x0 (r126 x0) from by unfold w126 r126; exact (cond_app (a126 x0) _ rfl rfl))
noncomputable def s126 (args : List Value) (s : St) : List (Bool × Value × St) :=
 match args, s.h with
 | [.float .f64 x0], [] => [(true, .float .f64 (r126 x0), st0)]
 | _, _ => T24 126 args s
noncomputable def T25 : CallF := addF T24 126 s126
set_option maxRecDepth 100000 in
set_option maxHeartbeats 4000000 in
theorem ok25 : CfOk Try.prog T25 := by
  refine cfOk_add ok24 fun args s r s' h1 h2 h3 => ?_
  unfold s126 at h3; split at h3
  · rename_i h; exact callOk ok24 Try.func126 h1 h2 h (lfOkF_no _ _).body (e126 _) rfl h3
  · exact ok24 _ _ _ _ _ h1 h2 h3

/-- math.IsInf -/
noncomputable def r122 (x0 : Nat) (x1 : Int) : Bool :=
 cond ((x1 : Int) == 0)
  ((fgt .f64 (r126 x0) 9218868437227405311))
  (cond (decide ((x1 : Int) < 0))
  ((fgt .f64 (fneg .f64 x0) 9218868437227405311))
  ((fgt .f64 x0 9218868437227405311)))
noncomputable def a122 (x0 : Nat) (x1 : Int) (p : Bool) : Res := firstT [(true, .bool p, st0)]
noncomputable def w122 (x0 : Nat) (x1 : Int) : Res :=
 (cond ((x1 : Int) == 0)
 (a122 x0 x1 ((fgt .f64 (r126 x0) 9218868437227405311)))
 (cond (decide ((x1 : Int) < 0))
  (a122 x0 x1 ((fgt .f64 (fneg .f64 x0) 9218868437227405311)))
  (a122 x0 x1 ((fgt .f64 x0 9218868437227405311)))))
set_option maxRecDepth 100000 in
set_option maxHeartbeats 4000000 in
theorem e122 (x0 : Nat) (x1 : Int) : evFn Try.prog ext T25 noL 200 Try.f122 [.float .f64 x0, .int .i64 x1] st0 = firstT [(true, .bool (r122 x0 x1), st0)] :=
 (show evFn Try.prog ext T25 noL 200 Try.f122 [.float .f64 x0, .int .i64 x1] st0 = w122 x0 x1 from by kernel_rfl).trans
 (show w122 x0 x1 = a122 x0 x1 (r122 x0 x1) from by unfold w122 r122; exact (cond_app (a122 x0 x1) _ rfl (cond_app (a122 x0 x1) _ rfl rfl)))
noncomputable def s122 (args : List Value) (s : St) : List (Bool × Value × St) :=
 match args, s.h with
 | [.float .f64 x0, .int .i64 x1], [] => [(true, .bool (r122 x0 x1), st0)]
 | _, _ => T25 122 args s
noncomputable def T26 : CallF := addF T25 122 s122
set_option maxRecDepth 100000 in
set_option maxHeartbeats 4000000 in
theorem ok26 : CfOk Try.prog T26 := by
  refine cfOk_add ok25 fun args s r s' h1 h2 h3 => ?_
  unfold s122 at h3; split at h3
  · rename_i h; exact callOk ok25 Try.func122 h1 h2 h (lfOkF_no _ _).body (e122 _ _) rfl h3
  · exact ok25 _ _ _ _ _ h1 h2 h3

/-- impl.isFinite -/
noncomputable def r104 (x0 : Nat) : Bool :=
 cond (r121 (widen x0))
  (false)
  (cond (r122 (widen x0) 0)
  (false)
  (true))
noncomputable def a104 (x0 : Nat) (p : Bool) : Res := firstT [(true, .bool p, ⟨[⟨true, (some (.tab [.fl .f32] ([[((x0 : Nat) : Int)]] : List (List Int))))⟩], 1, []⟩)]
noncomputable def w104 (x0 : Nat) : Res :=
 (cond (r121 (widen x0))
 (a104 x0 (false))
 (cond (r122 (widen x0) 0)
  (a104 x0 (false))
  (a104 x0 (true))))
set_option maxRecDepth 100000 in
set_option maxHeartbeats 4000000 in
theorem e104 (x0 : Nat) : evFn Try.prog ext T26 noL 200 Try.f104 [.slice (some ⟨0, 0, some 0⟩) 1 1] ⟨[⟨true, (some (.tab [.fl .f32] ([[((x0 : Nat) : Int)]] : List (List Int))))⟩], 1, []⟩ = firstT [(true, .bool (r104 x0), ⟨[⟨true, (some (.tab [.fl .f32] ([[((x0 : Nat) : Int)]] : List (List Int))))⟩], 1, []⟩)] :=
 (show evFn Try.prog ext T26 noL 200 Try.f104 [.slice (some ⟨0, 0, some 0⟩) 1 1] ⟨[⟨true, (some (.tab [.fl .f32] ([[((x0 : Nat) : Int)]] : List (List Int))))⟩], 1, []⟩ = w104 x0 from by kernel_rfl).trans
 (show w104 x0 = a104 x0 (r104 x0) from by unfold w104 r104; exact (cond_app (a104 x0) _ rfl (cond_app (a104 x0) _ rfl rfl)))
noncomputable def s104 (args : List Value) (s : St) : List (Bool × Value × St) :=
 match args, s.h with
 | [.slice (some ⟨f0, f1, some f2⟩) f3 f4], [⟨true, some (.tab [.fl .f32] [[.ofNat x0]])⟩] => if f0 = 0 ∧ f1 = 0 ∧ f2 = 0 ∧ f3 = 1 ∧ f4 = 1 then [(true, .bool (r104 x0), ⟨[⟨true, (some (.tab [.fl .f32] ([[((x0 : Nat) : Int)]] : List (List Int))))⟩], 1, []⟩)] else T26 104 args s
 | _, _ => T26 104 args s
noncomputable def T27 : CallF := addF T26 104 s104
set_option maxRecDepth 100000 in
set_option maxHeartbeats 4000000 in
theorem ok27 : CfOk Try.prog T27 := by
  refine cfOk_add ok26 fun args s r s' h1 h2 h3 => ?_
  unfold s104 at h3; split at h3
  · rename_i h; split at h3
    · rename_i hc; obtain ⟨rfl, rfl, rfl, rfl, rfl⟩ := hc; exact callOk ok26 Try.func104 h1 h2 h (lfOkF_no _ _).body (e104 _) rfl h3
    · exact ok26 _ _ _ _ _ h1 h2 h3
  · exact ok26 _ _ _ _ _ h1 h2 h3

/-- impl.IsAmount -/
noncomputable def r91 (x0 : Nat) : Bool :=
 cond (r104 x0)
  (cond (fgt .f32 x0 0 || feq .f32 x0 0)
  ((((Int.fdiv ((x0 : Nat) : Int) (2 ^ (min (31 : Int).toNat (IntKind.bits .u32)))) : Int) == 0))
  (false))
  (false)
noncomputable def a91 (x0 : Nat) (p : Bool) : Res := firstT [(true, .bool p, st0)]
noncomputable def w91 (x0 : Nat) : Res :=
 (cond (r104 x0)
 (cond (fgt .f32 x0 0 || feq .f32 x0 0)
  (cond (!isN .f32 x0)
  (a91 x0 ((((Int.fdiv ((x0 : Nat) : Int) (2 ^ (min (31 : Int).toNat (IntKind.bits .u32)))) : Int) == 0)))
  none)
  (a91 x0 (false)))
 (a91 x0 (false)))
set_option maxRecDepth 100000 in
set_option maxHeartbeats 4000000 in
theorem e91 (x0 : Nat) : evFn Try.prog ext T27 noL 200 Try.f91 [.float .f32 x0] st0 = firstT [(true, .bool (r91 x0), st0)] :=
 (show evFn Try.prog ext T27 noL 200 Try.f91 [.float .f32 x0] st0 = w91 x0 from by kernel_rfl).trans
 (show w91 x0 = a91 x0 (r91 x0) from by unfold w91 r91; exact (cond_both (a91 x0) _ (fun h0 => (cond_both (a91 x0) _ (fun h1 => (cond_t (ev_not1 (ev_or h1 (fun hq0 => (ev_gt1 hq0)) (fun hq0 => (ev_eq1 hq0)))) rfl)) (fun h1 => rfl))) (fun h0 => rfl)))
noncomputable def s91 (args : List Value) (s : St) : List (Bool × Value × St) :=
 match args, s.h with
 | [.float .f32 x0], [] => [(true, .bool (r91 x0), st0)]
 | _, _ => T27 91 args s
noncomputable def T28 : CallF := addF T27 91 s91
set_option maxRecDepth 100000 in
set_option maxHeartbeats 4000000 in
theorem ok28 : CfOk Try.prog T28 := by
  refine cfOk_add ok27 fun args s r s' h1 h2 h3 => ?_
  unfold s91 at h3; split at h3
  · rename_i h; exact callOk ok27 Try.func91 h1 h2 h (lfOkF_no _ _).body (e91 _) rfl h3
  · exact ok27 _ _ _ _ _ h1 h2 h3

/-- impl.isUpTo -/
noncomputable def r85 (x0 x1 : Nat) : Bool :=
 cond (r91 x0)
  ((flt .f32 x0 x1 || feq .f32 x0 x1))
  (false)
noncomputable def a85 (x0 x1 : Nat) (p : Bool) : Res := firstT [(true, .bool p, st0)]
noncomputable def w85 (x0 x1 : Nat) : Res :=
 (cond (r91 x0)
 (a85 x0 x1 ((flt .f32 x0 x1 || feq .f32 x0 x1)))
 (a85 x0 x1 (false)))
set_option maxRecDepth 100000 in
set_option maxHeartbeats 4000000 in
theorem e85 (x0 x1 : Nat) : evFn Try.prog ext T28 noL 200 Try.f85 [.float .f32 x0, .float .f32 x1] st0 = firstT [(true, .bool (r85 x0 x1), st0)] :=
 (show evFn Try.prog ext T28 noL 200 Try.f85 [.float .f32 x0, .float .f32 x1] st0 = w85 x0 x1 from by kernel_rfl).trans
 (show w85 x0 x1 = a85 x0 x1 (r85 x0 x1) from by unfold w85 r85; exact (cond_app (a85 x0 x1) _ rfl rfl))
noncomputable def s85 (args : List Value) (s : St) : List (Bool × Value × St) :=
 match args, s.h with
 | [.float .f32 x0, .float .f32 x1], [] => [(true, .bool (r85 x0 x1), st0)]
 | _, _ => T28 85 args s
noncomputable def T29 : CallF := addF T28 85 s85
set_option maxRecDepth 100000 in
set_option maxHeartbeats 4000000 in
theorem ok29 : CfOk Try.prog T29 := by
  refine cfOk_add ok28 fun args s r s' h1 h2 h3 => ?_
  unfold s85 at h3; split at h3
  · rename_i h; exact callOk ok28 Try.func85 h1 h2 h (lfOkF_no _ _).body (e85 _ _) rfl h3
  · exact ok28 _ _ _ _ _ h1 h2 h3

/-- impl.between -/
noncomputable def r86 (x0 x1 x2 : Nat) : Bool :=
 cond (fgt .f32 x0 x1 || feq .f32 x0 x1)
  ((flt .f32 x0 x2 || feq .f32 x0 x2))
  (false)
noncomputable def a86 (x0 x1 x2 : Nat) (p : Bool) : Res := firstT [(true, .bool p, st0)]
noncomputable def w86 (x0 x1 x2 : Nat) : Res :=
 (cond (fgt .f32 x0 x1 || feq .f32 x0 x1)
 (a86 x0 x1 x2 ((flt .f32 x0 x2 || feq .f32 x0 x2)))
 (a86 x0 x1 x2 (false)))
set_option maxRecDepth 100000 in
set_option maxHeartbeats 4000000 in
theorem e86 (x0 x1 x2 : Nat) : evFn Try.prog ext T29 noL 200 Try.f86 [.float .f32 x0, .float .f32 x1, .float .f32 x2] st0 = firstT [(true, .bool (r86 x0 x1 x2), st0)] :=
 (show evFn Try.prog ext T29 noL 200 Try.f86 [.float .f32 x0, .float .f32 x1, .float .f32 x2] st0 = w86 x0 x1 x2 from by kernel_rfl).trans
 (show w86 x0 x1 x2 = a86 x0 x1 x2 (r86 x0 x1 x2) from by unfold w86 r86; exact (cond_app (a86 x0 x1 x2) _ rfl rfl))
noncomputable def s86 (args : List Value) (s : St) : List (Bool × Value × St) :=
 match args, s.h with
 | [.float .f32 x0, .float .f32 x1, .float .f32 x2], [] => [(true, .bool (r86 x0 x1 x2), st0)]
 | _, _ => T29 86 args s
noncomputable def T30 : CallF := addF T29 86 s86
set_option maxRecDepth 100000 in
set_option maxHeartbeats 4000000 in
theorem ok30 : CfOk Try.prog T30 := by
  refine cfOk_add ok29 fun args s r s' h1 h2 h3 => ?_
  unfold s86 at h3; split at h3
  · rename_i h; exact callOk ok29 Try.func86 h1 h2 h (lfOkF_no _ _).body (e86 _ _ _) rfl h3
  · exact ok29 _ _ _ _ _ h1 h2 h3

/-- impl.ValidWood -/
noncomputable def r38 (x0 x1 x2 x3 x4 x5 x6 x7 x8 x9 x10 x11 x12 x13 x14 x15 x16 x17 : Nat) : Bool :=
 cond (!(r85 x0 1092616192))
  (false)
  (cond (!(r85 x12 1092616192))
  (false)
  (cond (!(r86 x6 3262119936 1153138688))
  (false)
  (cond (!(r85 x1 1092616192))
  (false)
  (cond (!(r85 x13 1092616192))
  (false)
  (cond (!(r86 x7 3262119936 1153138688))
  (false)
  (cond (!(r85 x2 1092616192))
  (false)
  (cond (!(r85 x14 1092616192))
  (false)
  (cond (!(r86 x8 3262119936 1153138688))
  (false)
  (cond (!(r85 x3 1092616192))
  (false)
  (cond (!(r85 x15 1092616192))
  (false)
  (cond (!(r86 x9 3262119936 1153138688))
  (false)
  (cond (!(r85 x4 1092616192))
  (false)
  (cond (!(r85 x16 1092616192))
  (false)
  (cond (!(r86 x10 3262119936 1153138688))
  (false)
  (cond (!(r85 x5 1092616192))
  (false)
  (cond (!(r85 x17 1092616192))
  (false)
  (cond (!(r86 x11 3262119936 1153138688))
  (false)
  (true))))))))))))))))))
noncomputable def a38 (x0 x1 x2 x3 x4 x5 x6 x7 x8 x9 x10 x11 x12 x13 x14 x15 x16 x17 : Nat) (p : Bool) : Res := firstT [(true, .bool p, st0)]
noncomputable def w38 (x0 x1 x2 x3 x4 x5 x6 x7 x8 x9 x10 x11 x12 x13 x14 x15 x16 x17 : Nat) : Res :=
 (cond (!(r85 x0 1092616192))
 (a38 x0 x1 x2 x3 x4 x5 x6 x7 x8 x9 x10 x11 x12 x13 x14 x15 x16 x17 (false))
 (cond (!(r85 x12 1092616192))
  (a38 x0 x1 x2 x3 x4 x5 x6 x7 x8 x9 x10 x11 x12 x13 x14 x15 x16 x17 (false))
  (cond (!(r86 x6 3262119936 1153138688))
  (a38 x0 x1 x2 x3 x4 x5 x6 x7 x8 x9 x10 x11 x12 x13 x14 x15 x16 x17 (false))
  (cond (!(r85 x1 1092616192))
  (a38 x0 x1 x2 x3 x4 x5 x6 x7 x8 x9 x10 x11 x12 x13 x14 x15 x16 x17 (false))
  (cond (!(r85 x13 1092616192))
  (a38 x0 x1 x2 x3 x4 x5 x6 x7 x8 x9 x10 x11 x12 x13 x14 x15 x16 x17 (false))
  (cond (!(r86 x7 3262119936 1153138688))
  (a38 x0 x1 x2 x3 x4 x5 x6 x7 x8 x9 x10 x11 x12 x13 x14 x15 x16 x17 (false))
  (cond (!(r85 x2 1092616192))
  (a38 x0 x1 x2 x3 x4 x5 x6 x7 x8 x9 x10 x11 x12 x13 x14 x15 x16 x17 (false))
  (cond (!(r85 x14 1092616192))
  (a38 x0 x1 x2 x3 x4 x5 x6 x7 x8 x9 x10 x11 x12 x13 x14 x15 x16 x17 (false))
  (cond (!(r86 x8 3262119936 1153138688))
  (a38 x0 x1 x2 x3 x4 x5 x6 x7 x8 x9 x10 x11 x12 x13 x14 x15 x16 x17 (false))
  (cond (!(r85 x3 1092616192))
  (a38 x0 x1 x2 x3 x4 x5 x6 x7 x8 x9 x10 x11 x12 x13 x14 x15 x16 x17 (false))
  (cond (!(r85 x15 1092616192))
  (a38 x0 x1 x2 x3 x4 x5 x6 x7 x8 x9 x10 x11 x12 x13 x14 x15 x16 x17 (false))
  (cond (!(r86 x9 3262119936 1153138688))
  (a38 x0 x1 x2 x3 x4 x5 x6 x7 x8 x9 x10 x11 x12 x13 x14 x15 x16 x17 (false))
  (cond (!(r85 x4 1092616192))
  (a38 x0 x1 x2 x3 x4 x5 x6 x7 x8 x9 x10 x11 x12 x13 x14 x15 x16 x17 (false))
  (cond (!(r85 x16 1092616192))
  (a38 x0 x1 x2 x3 x4 x5 x6 x7 x8 x9 x10 x11 x12 x13 x14 x15 x16 x17 (false))
  (cond (!(r86 x10 3262119936 1153138688))
  (a38 x0 x1 x2 x3 x4 x5 x6 x7 x8 x9 x10 x11 x12 x13 x14 x15 x16 x17 (false))
  (cond (!(r85 x5 1092616192))
  (a38 x0 x1 x2 x3 x4 x5 x6 x7 x8 x9 x10 x11 x12 x13 x14 x15 x16 x17 (false))
  (cond (!(r85 x17 1092616192))
  (a38 x0 x1 x2 x3 x4 x5 x6 x7 x8 x9 x10 x11 x12 x13 x14 x15 x16 x17 (false))
  (cond (!(r86 x11 3262119936 1153138688))
  (a38 x0 x1 x2 x3 x4 x5 x6 x7 x8 x9 x10 x11 x12 x13 x14 x15 x16 x17 (false))
  (a38 x0 x1 x2 x3 x4 x5 x6 x7 x8 x9 x10 x11 x12 x13 x14 x15 x16 x17 (true))))))))))))))))))))
set_option maxRecDepth 100000 in
set_option maxHeartbeats 4000000 in
theorem e38 (x0 x1 x2 x3 x4 x5 x6 x7 x8 x9 x10 x11 x12 x13 x14 x15 x16 x17 : Nat) : evFn Try.prog ext T30 noL 200 Try.f38 [.agg #[.float .f32 x0, .float .f32 x1, .float .f32 x2, .float .f32 x3, .float .f32 x4, .float .f32 x5, .float .f32 x6, .float .f32 x7, .float .f32 x8, .float .f32 x9, .float .f32 x10, .float .f32 x11, .float .f32 x12, .float .f32 x13, .float .f32 x14, .float .f32 x15, .float .f32 x16, .float .f32 x17]] st0 = firstT [(true, .bool (r38 x0 x1 x2 x3 x4 x5 x6 x7 x8 x9 x10 x11 x12 x13 x14 x15 x16 x17), st0)] :=
 (show evFn Try.prog ext T30 noL 200 Try.f38 [.agg #[.float .f32 x0, .float .f32 x1, .float .f32 x2, .float .f32 x3, .float .f32 x4, .float .f32 x5, .float .f32 x6, .float .f32 x7, .float .f32 x8, .float .f32 x9, .float .f32 x10, .float .f32 x11, .float .f32 x12, .float .f32 x13, .float .f32 x14, .float .f32 x15, .float .f32 x16, .float .f32 x17]] st0 = w38 x0 x1 x2 x3 x4 x5 x6 x7 x8 x9 x10 x11 x12 x13 x14 x15 x16 x17 from by kernel_rfl).trans
 (show w38 x0 x1 x2 x3 x4 x5 x6 x7 x8 x9 x10 x11 x12 x13 x14 x15 x16 x17 = a38 x0 x1 x2 x3 x4 x5 x6 x7 x8 x9 x10 x11 x12 x13 x14 x15 x16 x17 (r38 x0 x1 x2 x3 x4 x5 x6 x7 x8 x9 x10 x11 x12 x13 x14 x15 x16 x17) from by unfold w38 r38; exact (cond_app (a38 x0 x1 x2 x3 x4 x5 x6 x7 x8 x9 x10 x11 x12 x13 x14 x15 x16 x17) _ rfl (cond_app (a38 x0 x1 x2 x3 x4 x5 x6 x7 x8 x9 x10 x11 x12 x13 x14 x15 x16 x17) _ rfl (cond_app (a38 x0 x1 x2 x3 x4 x5 x6 x7 x8 x9 x10 x11 x12 x13 x14 x15 x16 x17) _ rfl (cond_app (a38 x0 x1 x2 x3 x4 x5 x6 x7 x8 x9 x10 x11 x12 x13 x14 x15 x16 x17) _ rfl (cond_app (a38 x0 x1 x2 x3 x4 x5 x6 x7 x8 x9 x10 x11 x12 x13 x14 x15 x16 x17) _ rfl (cond_app (a38 x0 x1 x2 x3 x4 x5 x6 x7 x8 x9 x10 x11 x12 x13 x14 x15 x16 x17) _ rfl (cond_app (a38 x0 x1 x2 x3 x4 x5 x6 x7 x8 x9 x10 x11 x12 x13 x14 x15 x16 x17) _ rfl (cond_app (a38 x0 x1 x2 x3 x4 x5 x6 x7 x8 x9 x10 x11 x12 x13 x14 x15 x16 x17) _ rfl (cond_app (a38 x0 x1 x2 x3 x4 x5 x6 x7 x8 x9 x10 x11 x12 x13 x14 x15 x16 x17) _ rfl (cond_app (a38 x0 x1 x2 x3 x4 x5 x6 x7 x8 x9 x10 x11 x12 x13 x14 x15 x16 x17) _ rfl (cond_app (a38 x0 x1 x2 x3 x4 x5 x6 x7 x8 x9 x10 x11 x12 x13 x14 x15 x16 x17) _ rfl (cond_app (a38 x0 x1 x2 x3 x4 x5 x6 x7 x8 x9 x10 x11 x12 x13 x14 x15 x16 x17) _ rfl (cond_app (a38 x0 x1 x2 x3 x4 x5 x6 x7 x8 x9 x10 x11 x12 x13 x14 x15 x16 x17) _ rfl (cond_app (a38 x0 x1 x2 x3 x4 x5 x6 x7 x8 x9 x10 x11 x12 x13 x14 x15 x16 x17) _ rfl (cond_app (a38 x0 x1 x2 x3 x4 x5 x6 x7 x8 x9 x10 x11 x12 x13 x14 x15 x16 x17) _ rfl (cond_app (a38 x0 x1 x2 x3 x4 x5 x6 x7 x8 x9 x10 x11 x12 x13 x14 x15 x16 x17) _ rfl (cond_app (a38 x0 x1 x2 x3 x4 x5 x6 x7 x8 x9 x10 x11 x12 x13 x14 x15 x16 x17) _ rfl (cond_app (a38 x0 x1 x2 x3 x4 x5 x6 x7 x8 x9 x10 x11 x12 x13 x14 x15 x16 x17) _ rfl rfl)))))))))))))))))))
noncomputable def s38 (args : List Value) (s : St) : List (Bool × Value × St) :=
 match args, s.h with
 | [.agg ⟨[.float .f32 x0, .float .f32 x1, .float .f32 x2, .float .f32 x3, .float .f32 x4, .float .f32 x5, .float .f32 x6, .float .f32 x7, .float .f32 x8, .float .f32 x9, .float .f32 x10, .float .f32 x11, .float .f32 x12, .float .f32 x13, .float .f32 x14, .float .f32 x15, .float .f32 x16, .float .f32 x17]⟩], [] => [(true, .bool (r38 x0 x1 x2 x3 x4 x5 x6 x7 x8 x9 x10 x11 x12 x13 x14 x15 x16 x17), st0)]
 | _, _ => T30 38 args s
noncomputable def T31 : CallF := addF T30 38 s38
set_option maxRecDepth 100000 in
set_option maxHeartbeats 4000000 in
theorem ok31 : CfOk Try.prog T31 := by
  refine cfOk_add ok30 fun args s r s' h1 h2 h3 => ?_
  unfold s38 at h3; split at h3
  · rename_i h; exact callOk ok30 Try.func38 h1 h2 h (lfOkF_no _ _).body (e38 _ _ _ _ _ _ _ _ _ _ _ _ _ _ _ _ _ _) rfl h3
  · exact ok30 _ _ _ _ _ h1 h2 h3

/-- impl.IsShare -/
noncomputable def r77 (x0 : Nat) : Bool :=
 cond (r91 x0)
  ((flt .f32 x0 1065353216 || feq .f32 x0 1065353216))
  (false)
noncomputable def a77 (x0 : Nat) (p : Bool) : Res := firstT [(true, .bool p, st0)]
noncomputable def w77 (x0 : Nat) : Res :=
 (cond (r91 x0)
 (a77 x0 ((flt .f32 x0 1065353216 || feq .f32 x0 1065353216)))
 (a77 x0 (false)))
set_option maxRecDepth 100000 in
set_option maxHeartbeats 4000000 in
theorem e77 (x0 : Nat) : evFn Try.prog ext T31 noL 200 Try.f77 [.float .f32 x0] st0 = firstT [(true, .bool (r77 x0), st0)] :=
 (show evFn Try.prog ext T31 noL 200 Try.f77 [.float .f32 x0] st0 = w77 x0 from by kernel_rfl).trans
 (show w77 x0 = a77 x0 (r77 x0) from by unfold w77 r77; exact (cond_app (a77 x0) _ rfl rfl))
noncomputable def s77 (args : List Value) (s : St) : List (Bool × Value × St) :=
 match args, s.h with
 | [.float .f32 x0], [] => [(true, .bool (r77 x0), st0)]
 | _, _ => T31 77 args s
noncomputable def T32 : CallF := addF T31 77 s77
set_option maxRecDepth 100000 in
set_option maxHeartbeats 4000000 in
theorem ok32 : CfOk Try.prog T32 := by
  refine cfOk_add ok31 fun args s r s' h1 h2 h3 => ?_
  unfold s77 at h3; split at h3
  · rename_i h; exact callOk ok31 Try.func77 h1 h2 h (lfOkF_no _ _).body (e77 _) rfl h3
  · exact ok31 _ _ _ _ _ h1 h2 h3

/-- impl.logCode -/
noncomputable def r73 (x0 x1 x2 x3 x4 x5 x6 x7 x8 x9 x10 x11 x12 x13 x14 x15 x16 x17 x18 x19 x20 : Nat) : Int :=
 cond (!(r38 x0 x1 x2 x3 x4 x5 x6 x7 x8 x9 x10 x11 x12 x13 x14 x15 x16 x17))
  (1)
  (cond (!(r104 x18))
  (2)
  (cond (!(r77 x19))
  (2)
  (cond (!(r77 x20))
  (2)
  (0))))
noncomputable def a73 (x0 x1 x2 x3 x4 x5 x6 x7 x8 x9 x10 x11 x12 x13 x14 x15 x16 x17 x18 x19 x20 : Nat) (p : Int) : Res := firstT [(true, .int .i64 p, st0)]
noncomputable def w73 (x0 x1 x2 x3 x4 x5 x6 x7 x8 x9 x10 x11 x12 x13 x14 x15 x16 x17 x18 x19 x20 : Nat) : Res :=
 (cond (!(r38 x0 x1 x2 x3 x4 x5 x6 x7 x8 x9 x10 x11 x12 x13 x14 x15 x16 x17))
 (a73 x0 x1 x2 x3 x4 x5 x6 x7 x8 x9 x10 x11 x12 x13 x14 x15 x16 x17 x18 x19 x20 (1))
 (cond (!(r104 x18))
  (a73 x0 x1 x2 x3 x4 x5 x6 x7 x8 x9 x10 x11 x12 x13 x14 x15 x16 x17 x18 x19 x20 (2))
  (cond (!(r77 x19))
  (a73 x0 x1 x2 x3 x4 x5 x6 x7 x8 x9 x10 x11 x12 x13 x14 x15 x16 x17 x18 x19 x20 (2))
  (cond (!(r77 x20))
  (a73 x0 x1 x2 x3 x4 x5 x6 x7 x8 x9 x10 x11 x12 x13 x14 x15 x16 x17 x18 x19 x20 (2))
  (a73 x0 x1 x2 x3 x4 x5 x6 x7 x8 x9 x10 x11 x12 x13 x14 x15 x16 x17 x18 x19 x20 (0))))))
set_option maxRecDepth 100000 in
set_option maxHeartbeats 4000000 in
theorem e73 (x0 x1 x2 x3 x4 x5 x6 x7 x8 x9 x10 x11 x12 x13 x14 x15 x16 x17 x18 x19 x20 : Nat) : evFn Try.prog ext T32 noL 200 Try.f73 [.agg #[.float .f32 x0, .float .f32 x1, .float .f32 x2, .float .f32 x3, .float .f32 x4, .float .f32 x5, .float .f32 x6, .float .f32 x7, .float .f32 x8, .float .f32 x9, .float .f32 x10, .float .f32 x11, .float .f32 x12, .float .f32 x13, .float .f32 x14, .float .f32 x15, .float .f32 x16, .float .f32 x17], .float .f32 x18, .float .f32 x19, .float .f32 x20] st0 = firstT [(true, .int .i64 (r73 x0 x1 x2 x3 x4 x5 x6 x7 x8 x9 x10 x11 x12 x13 x14 x15 x16 x17 x18 x19 x20), st0)] :=
 (show evFn Try.prog ext T32 noL 200 Try.f73 [.agg #[.float .f32 x0, .float .f32 x1, .float .f32 x2, .float .f32 x3, .float .f32 x4, .float .f32 x5, .float .f32 x6, .float .f32 x7, .float .f32 x8, .float .f32 x9, .float .f32 x10, .float .f32 x11, .float .f32 x12, .float .f32 x13, .float .f32 x14, .float .f32 x15, .float .f32 x16, .float .f32 x17], .float .f32 x18, .float .f32 x19, .float .f32 x20] st0 = w73 x0 x1 x2 x3 x4 x5 x6 x7 x8 x9 x10 x11 x12 x13 x14 x15 x16 x17 x18 x19 x20 from by kernel_rfl).trans
 (show w73 x0 x1 x2 x3 x4 x5 x6 x7 x8 x9 x10 x11 x12 x13 x14 x15 x16 x17 x18 x19 x20 = a73 x0 x1 x2 x3 x4 x5 x6 x7 x8 x9 x10 x11 x12 x13 x14 x15 x16 x17 x18 x19 x20 (r73 x0 x1 x2 x3 x4 x5 x6 x7 x8 x9 x10 x11 x12 x13 x14 x15 x16 x17 x18 x19 x20) from by unfold w73 r73; exact (cond_app (a73 x0 x1 x2 x3 x4 x5 x6 x7 x8 x9 x10 x11 x12 x13 x14 x15 x16 x17 x18 x19 x20) _ rfl (cond_app (a73 x0 x1 x2 x3 x4 x5 x6 x7 x8 x9 x10 x11 x12 x13 x14 x15 x16 x17 x18 x19 x20) _ rfl (cond_app (a73 x0 x1 x2 x3 x4 x5 x6 x7 x8 x9 x10 x11 x12 x13 x14 x15 x16 x17 x18 x19 x20) _ rfl (cond_app (a73 x0 x1 x2 x3 x4 x5 x6 x7 x8 x9 x10 x11 x12 x13 x14 x15 x16 x17 x18 x19 x20) _ rfl rfl)))))
noncomputable def s73 (args : List Value) (s : St) : List (Bool × Value × St) :=
 match args, s.h with
 | [.agg ⟨[.float .f32 x0, .float .f32 x1, .float .f32 x2, .float .f32 x3, .float .f32 x4, .float .f32 x5, .float .f32 x6, .float .f32 x7, .float .f32 x8, .float .f32 x9, .float .f32 x10, .float .f32 x11, .float .f32 x12, .float .f32 x13, .float .f32 x14, .float .f32 x15, .float .f32 x16, .float .f32 x17]⟩, .float .f32 x18, .float .f32 x19, .float .f32 x20], [] => [(true, .int .i64 (r73 x0 x1 x2 x3 x4 x5 x6 x7 x8 x9 x10 x11 x12 x13 x14 x15 x16 x17 x18 x19 x20), st0)]
 | _, _ => T32 73 args s
noncomputable def T33 : CallF := addF T32 73 s73
set_option maxRecDepth 100000 in
set_option maxHeartbeats 4000000 in
theorem ok33 : CfOk Try.prog T33 := by
  refine cfOk_add ok32 fun args s r s' h1 h2 h3 => ?_
  unfold s73 at h3; split at h3
  · rename_i h; exact callOk ok32 Try.func73 h1 h2 h (lfOkF_no _ _).body (e73 _ _ _ _ _ _ _ _ _ _ _ _ _ _ _ _ _ _ _ _ _) rfl h3
  · exact ok32 _ _ _ _ _ h1 h2 h3

/-- impl.sum -/
noncomputable def r60 (x0 x1 x2 x3 x4 x5 x6 x7 x8 x9 x10 x11 x12 x13 x14 x15 x16 x17 : Nat) : Nat :=
 ((fadd .f32 (fadd .f32 (fadd .f32 (fadd .f32 (fadd .f32 x0 x1) x2) x3) x4) x5))
noncomputable def a60 (x0 x1 x2 x3 x4 x5 x6 x7 x8 x9 x10 x11 x12 x13 x14 x15 x16 x17 : Nat) (p : Nat) : Res := firstT [(true, .float .f32 p, ⟨[⟨true, (some (.cells [.float .f32 x0, .float .f32 x1, .float .f32 x2, .float .f32 x3, .float .f32 x4, .float .f32 x5, .float .f32 x6, .float .f32 x7, .float .f32 x8, .float .f32 x9, .float .f32 x10, .float .f32 x11, .float .f32 x12, .float .f32 x13, .float .f32 x14, .float .f32 x15, .float .f32 x16, .float .f32 x17]))⟩], 1, []⟩)]
noncomputable def w60 (x0 x1 x2 x3 x4 x5 x6 x7 x8 x9 x10 x11 x12 x13 x14 x15 x16 x17 : Nat) : Res :=
 (a60 x0 x1 x2 x3 x4 x5 x6 x7 x8 x9 x10 x11 x12 x13 x14 x15 x16 x17 ((fadd .f32 (fadd .f32 (fadd .f32 (fadd .f32 (fadd .f32 x0 x1) x2) x3) x4) x5)))
set_option maxRecDepth 100000 in
set_option maxHeartbeats 4000000 in
theorem e60 (x0 x1 x2 x3 x4 x5 x6 x7 x8 x9 x10 x11 x12 x13 x14 x15 x16 x17 : Nat) : evFn Try.prog ext T33 noL 200 Try.f60 [xsl ⟨0, 0, some 0⟩ 6 6] ⟨[⟨true, (some (.cells [.float .f32 x0, .float .f32 x1, .float .f32 x2, .float .f32 x3, .float .f32 x4, .float .f32 x5, .float .f32 x6, .float .f32 x7, .float .f32 x8, .float .f32 x9, .float .f32 x10, .float .f32 x11, .float .f32 x12, .float .f32 x13, .float .f32 x14, .float .f32 x15, .float .f32 x16, .float .f32 x17]))⟩], 1, []⟩ = firstT [(true, .float .f32 (r60 x0 x1 x2 x3 x4 x5 x6 x7 x8 x9 x10 x11 x12 x13 x14 x15 x16 x17), ⟨[⟨true, (some (.cells [.float .f32 x0, .float .f32 x1, .float .f32 x2, .float .f32 x3, .float .f32 x4, .float .f32 x5, .float .f32 x6, .float .f32 x7, .float .f32 x8, .float .f32 x9, .float .f32 x10, .float .f32 x11, .float .f32 x12, .float .f32 x13, .float .f32 x14, .float .f32 x15, .float .f32 x16, .float .f32 x17]))⟩], 1, []⟩)] :=
 (show evFn Try.prog ext T33 noL 200 Try.f60 [xsl ⟨0, 0, some 0⟩ 6 6] ⟨[⟨true, (some (.cells [.float .f32 x0, .float .f32 x1, .float .f32 x2, .float .f32 x3, .float .f32 x4, .float .f32 x5, .float .f32 x6, .float .f32 x7, .float .f32 x8, .float .f32 x9, .float .f32 x10, .float .f32 x11, .float .f32 x12, .float .f32 x13, .float .f32 x14, .float .f32 x15, .float .f32 x16, .float .f32 x17]))⟩], 1, []⟩ = w60 x0 x1 x2 x3 x4 x5 x6 x7 x8 x9 x10 x11 x12 x13 x14 x15 x16 x17 from by kernel_rfl).trans
 (show w60 x0 x1 x2 x3 x4 x5 x6 x7 x8 x9 x10 x11 x12 x13 x14 x15 x16 x17 = a60 x0 x1 x2 x3 x4 x5 x6 x7 x8 x9 x10 x11 x12 x13 x14 x15 x16 x17 (r60 x0 x1 x2 x3 x4 x5 x6 x7 x8 x9 x10 x11 x12 x13 x14 x15 x16 x17) from by unfold w60 r60; exact rfl)
noncomputable def s60 (args : List Value) (s : St) : List (Bool × Value × St) :=
 match args, s.h with
 | [.iface f5 (.slice (some ⟨f0, f1, some f2⟩) f3 f4)], [⟨true, some (.cells [.float .f32 x0, .float .f32 x1, .float .f32 x2, .float .f32 x3, .float .f32 x4, .float .f32 x5, .float .f32 x6, .float .f32 x7, .float .f32 x8, .float .f32 x9, .float .f32 x10, .float .f32 x11, .float .f32 x12, .float .f32 x13, .float .f32 x14, .float .f32 x15, .float .f32 x16, .float .f32 x17])⟩] => if f0 = 0 ∧ f1 = 0 ∧ f2 = 0 ∧ f3 = 6 ∧ f4 = 6 ∧ f5 = 0 then [(true, .float .f32 (r60 x0 x1 x2 x3 x4 x5 x6 x7 x8 x9 x10 x11 x12 x13 x14 x15 x16 x17), ⟨[⟨true, (some (.cells [.float .f32 x0, .float .f32 x1, .float .f32 x2, .float .f32 x3, .float .f32 x4, .float .f32 x5, .float .f32 x6, .float .f32 x7, .float .f32 x8, .float .f32 x9, .float .f32 x10, .float .f32 x11, .float .f32 x12, .float .f32 x13, .float .f32 x14, .float .f32 x15, .float .f32 x16, .float .f32 x17]))⟩], 1, []⟩)] else T33 60 args s
 | _, _ => T33 60 args s
noncomputable def T34 : CallF := addF T33 60 s60
set_option maxRecDepth 100000 in
set_option maxHeartbeats 4000000 in
theorem ok34 : CfOk Try.prog T34 := by
  refine cfOk_add ok33 fun args s r s' h1 h2 h3 => ?_
  unfold s60 at h3; split at h3
  · rename_i h; split at h3
    · rename_i hc; obtain ⟨rfl, rfl, rfl, rfl, rfl, rfl⟩ := hc; exact callOk ok33 Try.func60 h1 h2 h (lfOkF_no _ _).body (e60 _ _ _ _ _ _ _ _ _ _ _ _ _ _ _ _ _ _) rfl h3
    · exact ok33 _ _ _ _ _ h1 h2 h3
  · exact ok33 _ _ _ _ _ h1 h2 h3

/-- impl.mass -/
noncomputable def r108 (x0 x1 : Nat) : Nat :=
 ((fadd .f32 (fadd .f32 (fmul .f32 x0 1082130432) (fmul .f32 x1 1073741824)) 1048576000))
noncomputable def a108 (x0 x1 : Nat) (p : Nat) : Res := firstT [(true, .float .f32 p, st0)]
noncomputable def w108 (x0 x1 : Nat) : Res :=
 (a108 x0 x1 ((fadd .f32 (fadd .f32 (fmul .f32 x0 1082130432) (fmul .f32 x1 1073741824)) 1048576000)))
set_option maxRecDepth 100000 in
set_option maxHeartbeats 4000000 in
theorem e108 (x0 x1 : Nat) : evFn Try.prog ext T34 noL 200 Try.f108 [.float .f32 x0, .float .f32 x1] st0 = firstT [(true, .float .f32 (r108 x0 x1), st0)] :=
 (show evFn Try.prog ext T34 noL 200 Try.f108 [.float .f32 x0, .float .f32 x1] st0 = w108 x0 x1 from by kernel_rfl).trans
 (show w108 x0 x1 = a108 x0 x1 (r108 x0 x1) from by unfold w108 r108; exact rfl)
noncomputable def s108 (args : List Value) (s : St) : List (Bool × Value × St) :=
 match args, s.h with
 | [.float .f32 x0, .float .f32 x1], [] => [(true, .float .f32 (r108 x0 x1), st0)]
 | _, _ => T34 108 args s
noncomputable def T35 : CallF := addF T34 108 s108
set_option maxRecDepth 100000 in
set_option maxHeartbeats 4000000 in
theorem ok35 : CfOk Try.prog T35 := by
  refine cfOk_add ok34 fun args s r s' h1 h2 h3 => ?_
  unfold s108 at h3; split at h3
  · rename_i h; exact callOk ok34 Try.func108 h1 h2 h (lfOkF_no _ _).body (e108 _ _) rfl h3
  · exact ok34 _ _ _ _ _ h1 h2 h3

/-- impl.held -/
noncomputable def r114 (x0 x1 x2 : Nat) : Nat :=
 cond (flt .f32 x0 x1)
  (x1)
  (cond (fgt .f32 x0 x2)
  (x2)
  (x0))
noncomputable def a114 (x0 x1 x2 : Nat) (p : Nat) : Res := firstT [(true, .float .f32 p, st0)]
noncomputable def w114 (x0 x1 x2 : Nat) : Res :=
 (cond (flt .f32 x0 x1)
 (a114 x0 x1 x2 (x1))
 (cond (fgt .f32 x0 x2)
  (a114 x0 x1 x2 (x2))
  (a114 x0 x1 x2 (x0))))
set_option maxRecDepth 100000 in
set_option maxHeartbeats 4000000 in
theorem e114 (x0 x1 x2 : Nat) : evFn Try.prog ext T35 noL 200 Try.f114 [.float .f32 x0, .float .f32 x1, .float .f32 x2] st0 = firstT [(true, .float .f32 (r114 x0 x1 x2), st0)] :=
 (show evFn Try.prog ext T35 noL 200 Try.f114 [.float .f32 x0, .float .f32 x1, .float .f32 x2] st0 = w114 x0 x1 x2 from by kernel_rfl).trans
 (show w114 x0 x1 x2 = a114 x0 x1 x2 (r114 x0 x1 x2) from by unfold w114 r114; exact (cond_app (a114 x0 x1 x2) _ rfl (cond_app (a114 x0 x1 x2) _ rfl rfl)))
noncomputable def s114 (args : List Value) (s : St) : List (Bool × Value × St) :=
 match args, s.h with
 | [.float .f32 x0, .float .f32 x1, .float .f32 x2], [] => [(true, .float .f32 (r114 x0 x1 x2), st0)]
 | _, _ => T35 114 args s
noncomputable def T36 : CallF := addF T35 114 s114
set_option maxRecDepth 100000 in
set_option maxHeartbeats 4000000 in
theorem ok36 : CfOk Try.prog T36 := by
  refine cfOk_add ok35 fun args s r s' h1 h2 h3 => ?_
  unfold s114 at h3; split at h3
  · rename_i h; exact callOk ok35 Try.func114 h1 h2 h (lfOkF_no _ _).body (e114 _ _ _) rfl h3
  · exact ok35 _ _ _ _ _ h1 h2 h3

/-- impl.warm -/
noncomputable def r105 (x0 x1 x2 x3 x4 x5 x6 x7 x8 x9 x10 x11 x12 x13 x14 x15 x16 x17 x18 x19 : Nat) : Nat × Nat × Nat × Nat × Nat × Nat × Nat :=
 let c78 := (r114 (fadd .f32 x6 (fdiv .f32 (fsub .f32 (fmul .f32 (fmul .f32 1056964608 (fsub .f32 x18 x6)) x19) (fmul .f32 (fmul .f32 1048576000 (fsub .f32 x6 x7)) x19)) (r108 x0 x12))) 3262119936 1153138688)
 let c79 := (r114 (fadd .f32 x7 (fdiv .f32 (fsub .f32 (fmul .f32 (fmul .f32 1048576000 (fsub .f32 x6 x7)) x19) (fmul .f32 (fmul .f32 1048576000 (fsub .f32 x7 x8)) x19)) (r108 x1 x13))) 3262119936 1153138688)
 let c80 := (r114 (fadd .f32 x8 (fdiv .f32 (fsub .f32 (fmul .f32 (fmul .f32 1048576000 (fsub .f32 x7 x8)) x19) (fmul .f32 (fmul .f32 1048576000 (fsub .f32 x8 x9)) x19)) (r108 x2 x14))) 3262119936 1153138688)
 let c81 := (r114 (fadd .f32 x9 (fdiv .f32 (fsub .f32 (fmul .f32 (fmul .f32 1048576000 (fsub .f32 x8 x9)) x19) (fmul .f32 (fmul .f32 1048576000 (fsub .f32 x9 x10)) x19)) (r108 x3 x15))) 3262119936 1153138688)
 let c82 := (r114 (fadd .f32 x10 (fdiv .f32 (fsub .f32 (fmul .f32 (fmul .f32 1048576000 (fsub .f32 x9 x10)) x19) (fmul .f32 (fmul .f32 1048576000 (fsub .f32 x10 x11)) x19)) (r108 x4 x16))) 3262119936 1153138688)
 let c83 := (r114 (fadd .f32 x11 (fdiv .f32 (fsub .f32 (fmul .f32 (fmul .f32 1048576000 (fsub .f32 x10 x11)) x19) 0) (r108 x5 x17))) 3262119936 1153138688)
 (c78, c79, c80, c81, c82, c83, (fmul .f32 (fmul .f32 1056964608 (fsub .f32 x18 x6)) x19))
noncomputable def a105 (x0 x1 x2 x3 x4 x5 x6 x7 x8 x9 x10 x11 x12 x13 x14 x15 x16 x17 x18 x19 : Nat) (p : Nat × Nat × Nat × Nat × Nat × Nat × Nat) : Res := firstT [(true, .tuple #[.agg #[.float .f32 x0, .float .f32 x1, .float .f32 x2, .float .f32 x3, .float .f32 x4, .float .f32 x5, .float .f32 (p.1), .float .f32 (p.2.1), .float .f32 (p.2.2.1), .float .f32 (p.2.2.2.1), .float .f32 (p.2.2.2.2.1), .float .f32 (p.2.2.2.2.2.1), .float .f32 x12, .float .f32 x13, .float .f32 x14, .float .f32 x15, .float .f32 x16, .float .f32 x17], .float .f32 (p.2.2.2.2.2.2)], st0)]
noncomputable def w105 (x0 x1 x2 x3 x4 x5 x6 x7 x8 x9 x10 x11 x12 x13 x14 x15 x16 x17 x18 x19 : Nat) : Res :=
 let c78 := (r114 (fadd .f32 x6 (fdiv .f32 (fsub .f32 (fmul .f32 (fmul .f32 1056964608 (fsub .f32 x18 x6)) x19) (fmul .f32 (fmul .f32 1048576000 (fsub .f32 x6 x7)) x19)) (r108 x0 x12))) 3262119936 1153138688)
 let c79 := (r114 (fadd .f32 x7 (fdiv .f32 (fsub .f32 (fmul .f32 (fmul .f32 1048576000 (fsub .f32 x6 x7)) x19) (fmul .f32 (fmul .f32 1048576000 (fsub .f32 x7 x8)) x19)) (r108 x1 x13))) 3262119936 1153138688)
 let c80 := (r114 (fadd .f32 x8 (fdiv .f32 (fsub .f32 (fmul .f32 (fmul .f32 1048576000 (fsub .f32 x7 x8)) x19) (fmul .f32 (fmul .f32 1048576000 (fsub .f32 x8 x9)) x19)) (r108 x2 x14))) 3262119936 1153138688)
 let c81 := (r114 (fadd .f32 x9 (fdiv .f32 (fsub .f32 (fmul .f32 (fmul .f32 1048576000 (fsub .f32 x8 x9)) x19) (fmul .f32 (fmul .f32 1048576000 (fsub .f32 x9 x10)) x19)) (r108 x3 x15))) 3262119936 1153138688)
 let c82 := (r114 (fadd .f32 x10 (fdiv .f32 (fsub .f32 (fmul .f32 (fmul .f32 1048576000 (fsub .f32 x9 x10)) x19) (fmul .f32 (fmul .f32 1048576000 (fsub .f32 x10 x11)) x19)) (r108 x4 x16))) 3262119936 1153138688)
 let c83 := (r114 (fadd .f32 x11 (fdiv .f32 (fsub .f32 (fmul .f32 (fmul .f32 1048576000 (fsub .f32 x10 x11)) x19) 0) (r108 x5 x17))) 3262119936 1153138688)
 (a105 x0 x1 x2 x3 x4 x5 x6 x7 x8 x9 x10 x11 x12 x13 x14 x15 x16 x17 x18 x19 (c78, c79, c80, c81, c82, c83, (fmul .f32 (fmul .f32 1056964608 (fsub .f32 x18 x6)) x19)))
set_option maxRecDepth 100000 in
set_option maxHeartbeats 4000000 in
theorem e105 (x0 x1 x2 x3 x4 x5 x6 x7 x8 x9 x10 x11 x12 x13 x14 x15 x16 x17 x18 x19 : Nat) : evFn Try.prog ext T36 noL 200 Try.f105 [.agg #[.float .f32 x0, .float .f32 x1, .float .f32 x2, .float .f32 x3, .float .f32 x4, .float .f32 x5, .float .f32 x6, .float .f32 x7, .float .f32 x8, .float .f32 x9, .float .f32 x10, .float .f32 x11, .float .f32 x12, .float .f32 x13, .float .f32 x14, .float .f32 x15, .float .f32 x16, .float .f32 x17], .float .f32 x18, .float .f32 x19] st0 = firstT [(true, .tuple #[.agg #[.float .f32 x0, .float .f32 x1, .float .f32 x2, .float .f32 x3, .float .f32 x4, .float .f32 x5, .float .f32 ((r105 x0 x1 x2 x3 x4 x5 x6 x7 x8 x9 x10 x11 x12 x13 x14 x15 x16 x17 x18 x19).1), .float .f32 ((r105 x0 x1 x2 x3 x4 x5 x6 x7 x8 x9 x10 x11 x12 x13 x14 x15 x16 x17 x18 x19).2.1), .float .f32 ((r105 x0 x1 x2 x3 x4 x5 x6 x7 x8 x9 x10 x11 x12 x13 x14 x15 x16 x17 x18 x19).2.2.1), .float .f32 ((r105 x0 x1 x2 x3 x4 x5 x6 x7 x8 x9 x10 x11 x12 x13 x14 x15 x16 x17 x18 x19).2.2.2.1), .float .f32 ((r105 x0 x1 x2 x3 x4 x5 x6 x7 x8 x9 x10 x11 x12 x13 x14 x15 x16 x17 x18 x19).2.2.2.2.1), .float .f32 ((r105 x0 x1 x2 x3 x4 x5 x6 x7 x8 x9 x10 x11 x12 x13 x14 x15 x16 x17 x18 x19).2.2.2.2.2.1), .float .f32 x12, .float .f32 x13, .float .f32 x14, .float .f32 x15, .float .f32 x16, .float .f32 x17], .float .f32 ((r105 x0 x1 x2 x3 x4 x5 x6 x7 x8 x9 x10 x11 x12 x13 x14 x15 x16 x17 x18 x19).2.2.2.2.2.2)], st0)] :=
 (show evFn Try.prog ext T36 noL 200 Try.f105 [.agg #[.float .f32 x0, .float .f32 x1, .float .f32 x2, .float .f32 x3, .float .f32 x4, .float .f32 x5, .float .f32 x6, .float .f32 x7, .float .f32 x8, .float .f32 x9, .float .f32 x10, .float .f32 x11, .float .f32 x12, .float .f32 x13, .float .f32 x14, .float .f32 x15, .float .f32 x16, .float .f32 x17], .float .f32 x18, .float .f32 x19] st0 = w105 x0 x1 x2 x3 x4 x5 x6 x7 x8 x9 x10 x11 x12 x13 x14 x15 x16 x17 x18 x19 from by kernel_rfl).trans
 (show w105 x0 x1 x2 x3 x4 x5 x6 x7 x8 x9 x10 x11 x12 x13 x14 x15 x16 x17 x18 x19 = a105 x0 x1 x2 x3 x4 x5 x6 x7 x8 x9 x10 x11 x12 x13 x14 x15 x16 x17 x18 x19 (r105 x0 x1 x2 x3 x4 x5 x6 x7 x8 x9 x10 x11 x12 x13 x14 x15 x16 x17 x18 x19) from by unfold w105 r105; exact rfl)
noncomputable def s105 (args : List Value) (s : St) : List (Bool × Value × St) :=
 match args, s.h with
 | [.agg ⟨[.float .f32 x0, .float .f32 x1, .float .f32 x2, .float .f32 x3, .float .f32 x4, .float .f32 x5, .float .f32 x6, .float .f32 x7, .float .f32 x8, .float .f32 x9, .float .f32 x10, .float .f32 x11, .float .f32 x12, .float .f32 x13, .float .f32 x14, .float .f32 x15, .float .f32 x16, .float .f32 x17]⟩, .float .f32 x18, .float .f32 x19], [] => [(true, .tuple #[.agg #[.float .f32 x0, .float .f32 x1, .float .f32 x2, .float .f32 x3, .float .f32 x4, .float .f32 x5, .float .f32 ((r105 x0 x1 x2 x3 x4 x5 x6 x7 x8 x9 x10 x11 x12 x13 x14 x15 x16 x17 x18 x19).1), .float .f32 ((r105 x0 x1 x2 x3 x4 x5 x6 x7 x8 x9 x10 x11 x12 x13 x14 x15 x16 x17 x18 x19).2.1), .float .f32 ((r105 x0 x1 x2 x3 x4 x5 x6 x7 x8 x9 x10 x11 x12 x13 x14 x15 x16 x17 x18 x19).2.2.1), .float .f32 ((r105 x0 x1 x2 x3 x4 x5 x6 x7 x8 x9 x10 x11 x12 x13 x14 x15 x16 x17 x18 x19).2.2.2.1), .float .f32 ((r105 x0 x1 x2 x3 x4 x5 x6 x7 x8 x9 x10 x11 x12 x13 x14 x15 x16 x17 x18 x19).2.2.2.2.1), .float .f32 ((r105 x0 x1 x2 x3 x4 x5 x6 x7 x8 x9 x10 x11 x12 x13 x14 x15 x16 x17 x18 x19).2.2.2.2.2.1), .float .f32 x12, .float .f32 x13, .float .f32 x14, .float .f32 x15, .float .f32 x16, .float .f32 x17], .float .f32 ((r105 x0 x1 x2 x3 x4 x5 x6 x7 x8 x9 x10 x11 x12 x13 x14 x15 x16 x17 x18 x19).2.2.2.2.2.2)], st0)]
 | _, _ => T36 105 args s
noncomputable def T37 : CallF := addF T36 105 s105
set_option maxRecDepth 100000 in
set_option maxHeartbeats 4000000 in
theorem ok37 : CfOk Try.prog T37 := by
  refine cfOk_add ok36 fun args s r s' h1 h2 h3 => ?_
  unfold s105 at h3; split at h3
  · rename_i h; exact callOk ok36 Try.func105 h1 h2 h (lfOkF_no _ _).body (e105 _ _ _ _ _ _ _ _ _ _ _ _ _ _ _ _ _ _ _ _) rfl h3
  · exact ok36 _ _ _ _ _ h1 h2 h3
end Go.Proofs.Ytbmagccjcccnaaa
