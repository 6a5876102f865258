/- What the functions that the statements reach answer, part 2. -/
import Derived.Test.YtfclciebpnnieaaPp1
namespace Go.Proofs.Ytfclciebpnnieaa
open Go.Ab
set_option maxHeartbeats 4000000
set_option maxRecDepth 100000

/-- spec.l05Mul, loop 0 -/
noncomputable def r100l0b (x0 x1 x2 x3 x4 x5 x6 x7 : Nat) : Nat × Nat × Nat × Nat × Nat :=
 cond (!feq .f32 x7 x7)
  (cond (narrowOk (r111 (-1)))
   (cond (narrowOk (r111 1))
    (0, (narrow (r111 (-1))), (narrow (r111 1)), 0, 0)
    (2, 0, 0, 0, 0))
   (2, 0, 0, 0, 0))
  (cond (flt .f32 x7 x0)
   (cond (fgt .f32 x7 x1)
    (1, 0, 0, x7, x7)
    (1, 0, 0, x7, x1))
   (cond (fgt .f32 x7 x1)
    (1, 0, 0, x0, x7)
    (1, 0, 0, x0, x1)))
noncomputable def a100l0b (x0 x1 x2 x3 x4 x5 x6 x7 : Nat) (p : Nat × Nat × Nat × Nat × Nat) : Option (Fin' × List Value × St) := firstT ([((Nat.beq (p.1) 0), .ret, [.pointer (some ⟨0, 0, some 0⟩), .float .f32 x0, .float .f32 x1], ⟨[⟨true, (some (.cells [.float .f32 (p.2.1), .float .f32 (p.2.2.1)]))⟩, ⟨true, (some (.cells [.float .f32 x4, .float .f32 x5, .float .f32 x6, .float .f32 x7]))⟩], 2, [0]⟩), ((Nat.beq (p.1) 1), .exit 0, [.pointer (some ⟨0, 0, some 0⟩), .float .f32 (p.2.2.2.1), .float .f32 (p.2.2.2.2)], ⟨[⟨true, (some (.cells [.float .f32 x2, .float .f32 x3]))⟩, ⟨true, (some (.cells [.float .f32 x4, .float .f32 x5, .float .f32 x6, .float .f32 x7]))⟩], 2, [0]⟩)].map fun (b, x) => (b, (x.1, frameOf 63 [4, 6, 7] x.2.1, x.2.2)))
noncomputable def w100l0b (x0 x1 x2 x3 x4 x5 x6 x7 : Nat) : Option (Fin' × List Value × St) :=
 (cond (!feq .f32 x7 x7)
 (cond (narrowOk (r111 (-1)))
  (cond (narrowOk (r111 1))
   (a100l0b x0 x1 x2 x3 x4 x5 x6 x7 (0, (narrow (r111 (-1))), (narrow (r111 1)), 0, 0))
   none)
  none)
 (cond (flt .f32 x7 x0)
  (cond (fgt .f32 x7 x1)
   (a100l0b x0 x1 x2 x3 x4 x5 x6 x7 (1, 0, 0, x7, x7))
   (a100l0b x0 x1 x2 x3 x4 x5 x6 x7 (1, 0, 0, x7, x1)))
  (cond (fgt .f32 x7 x1)
   (a100l0b x0 x1 x2 x3 x4 x5 x6 x7 (1, 0, 0, x0, x7))
   (a100l0b x0 x1 x2 x3 x4 x5 x6 x7 (1, 0, 0, x0, x1)))))
set_option maxRecDepth 100000 in
set_option maxHeartbeats 4000000 in
theorem e100l0b (x0 x1 x2 x3 x4 x5 x6 x7 : Nat) : evC Try.prog ext T26 L100_1 200 (loopN Try.f100 0) (loopTail ([4, 5, 6, 7, 8], []) [4, 6, 7] [0] (sumK 63 [4, 5, 6, 7, 8] [4, 6, 7] Q100l0)) (frameOf 63 [4, 5, 6, 7, 8] [.pointer (some ⟨0, 0, some 0⟩), .pointer (some ⟨1, 0, some 0⟩), .float .f32 x0, .float .f32 x1, .int .i64 3]) ⟨[⟨true, (some (.cells [.float .f32 x2, .float .f32 x3]))⟩, ⟨true, (some (.cells [.float .f32 x4, .float .f32 x5, .float .f32 x6, .float .f32 x7]))⟩], 2, []⟩ = firstT ([((Nat.beq ((r100l0b x0 x1 x2 x3 x4 x5 x6 x7).1) 0), .ret, [.pointer (some ⟨0, 0, some 0⟩), .float .f32 x0, .float .f32 x1], ⟨[⟨true, (some (.cells [.float .f32 ((r100l0b x0 x1 x2 x3 x4 x5 x6 x7).2.1), .float .f32 ((r100l0b x0 x1 x2 x3 x4 x5 x6 x7).2.2.1)]))⟩, ⟨true, (some (.cells [.float .f32 x4, .float .f32 x5, .float .f32 x6, .float .f32 x7]))⟩], 2, [0]⟩), ((Nat.beq ((r100l0b x0 x1 x2 x3 x4 x5 x6 x7).1) 1), .exit 0, [.pointer (some ⟨0, 0, some 0⟩), .float .f32 ((r100l0b x0 x1 x2 x3 x4 x5 x6 x7).2.2.2.1), .float .f32 ((r100l0b x0 x1 x2 x3 x4 x5 x6 x7).2.2.2.2)], ⟨[⟨true, (some (.cells [.float .f32 x2, .float .f32 x3]))⟩, ⟨true, (some (.cells [.float .f32 x4, .float .f32 x5, .float .f32 x6, .float .f32 x7]))⟩], 2, [0]⟩)].map fun (b, x) => (b, (x.1, frameOf 63 [4, 6, 7] x.2.1, x.2.2))) :=
 (show evC Try.prog ext T26 L100_1 200 (loopN Try.f100 0) (loopTail ([4, 5, 6, 7, 8], []) [4, 6, 7] [0] (sumK 63 [4, 5, 6, 7, 8] [4, 6, 7] Q100l0)) (frameOf 63 [4, 5, 6, 7, 8] [.pointer (some ⟨0, 0, some 0⟩), .pointer (some ⟨1, 0, some 0⟩), .float .f32 x0, .float .f32 x1, .int .i64 3]) ⟨[⟨true, (some (.cells [.float .f32 x2, .float .f32 x3]))⟩, ⟨true, (some (.cells [.float .f32 x4, .float .f32 x5, .float .f32 x6, .float .f32 x7]))⟩], 2, []⟩ = w100l0b x0 x1 x2 x3 x4 x5 x6 x7 from by kernel_rfl).trans
 (show w100l0b x0 x1 x2 x3 x4 x5 x6 x7 = a100l0b x0 x1 x2 x3 x4 x5 x6 x7 (r100l0b x0 x1 x2 x3 x4 x5 x6 x7) from by unfold w100l0b r100l0b; exact (cond_app (a100l0b x0 x1 x2 x3 x4 x5 x6 x7) _ (cond_app (a100l0b x0 x1 x2 x3 x4 x5 x6 x7) _ (cond_app (a100l0b x0 x1 x2 x3 x4 x5 x6 x7) _ rfl rfl) rfl) (cond_app (a100l0b x0 x1 x2 x3 x4 x5 x6 x7) _ (cond_app (a100l0b x0 x1 x2 x3 x4 x5 x6 x7) _ rfl rfl) (cond_app (a100l0b x0 x1 x2 x3 x4 x5 x6 x7) _ rfl rfl))))
noncomputable def Q100l0b : SumK := fun vals s =>
 match vals, s.h with
 | [.pointer (some ⟨f0, f1, some f2⟩), .pointer (some ⟨f3, f4, some f5⟩), .float .f32 x0, .float .f32 x1, .int .i64 f6], [⟨true, some (.cells [.float .f32 x2, .float .f32 x3])⟩, ⟨true, some (.cells [.float .f32 x4, .float .f32 x5, .float .f32 x6, .float .f32 x7])⟩] => if f0 = 0 ∧ f1 = 0 ∧ f2 = 0 ∧ f3 = 1 ∧ f4 = 0 ∧ f5 = 0 ∧ f6 = 3 then [((Nat.beq ((r100l0b x0 x1 x2 x3 x4 x5 x6 x7).1) 0), .ret, [.pointer (some ⟨0, 0, some 0⟩), .float .f32 x0, .float .f32 x1], ⟨[⟨true, (some (.cells [.float .f32 ((r100l0b x0 x1 x2 x3 x4 x5 x6 x7).2.1), .float .f32 ((r100l0b x0 x1 x2 x3 x4 x5 x6 x7).2.2.1)]))⟩, ⟨true, (some (.cells [.float .f32 x4, .float .f32 x5, .float .f32 x6, .float .f32 x7]))⟩], 2, [0]⟩), ((Nat.beq ((r100l0b x0 x1 x2 x3 x4 x5 x6 x7).1) 1), .exit 0, [.pointer (some ⟨0, 0, some 0⟩), .float .f32 ((r100l0b x0 x1 x2 x3 x4 x5 x6 x7).2.2.2.1), .float .f32 ((r100l0b x0 x1 x2 x3 x4 x5 x6 x7).2.2.2.2)], ⟨[⟨true, (some (.cells [.float .f32 x2, .float .f32 x3]))⟩, ⟨true, (some (.cells [.float .f32 x4, .float .f32 x5, .float .f32 x6, .float .f32 x7]))⟩], 2, [0]⟩)] else Q100l0 vals s
 | _, _ => Q100l0 vals s
set_option maxRecDepth 100000 in
set_option maxHeartbeats 4000000 in
theorem qok100l0b : SumKOk Try.prog (loopN Try.f100 0) 63 [4, 5, 6, 7, 8] [4, 6, 7] Q100l0b := by
  intro vals s x h1 h2 h3
  unfold Q100l0b at h3; split at h3
  · rename_i h; split at h3
    · rename_i hc; obtain ⟨rfl, rfl, rfl, rfl, rfl, rfl, rfl⟩ := hc; exact sum_step ok26 extOk mixed (lok100_1.inner (by kernel_rfl)) qok100l0 h1 h2 h (e100l0b _ _ _ _ _ _ _ _) rfl h3
    · exact qok100l0 _ _ _ h1 h2 h3
  · exact qok100l0 _ _ _ h1 h2 h3
noncomputable def L100_2 : LoopT := addL L100_1 6 ([4, 5, 6, 7, 8], []) (sumK 63 [4, 5, 6, 7, 8] [4, 6, 7] Q100l0b)
theorem lok100_2 : LfOkF Try.prog L100_2 Try.f100 := lfOkF_add lok100_1 qok100l0b (by kernel_rfl) (by kernel_rfl) (by kernel_rfl)

/-- spec.l05Mul, loop 0 -/
noncomputable def r100l0c (x0 x1 x2 x3 x4 x5 x6 x7 : Nat) : Nat × Nat × Nat × Nat × Nat × Nat × Nat :=
 cond (!feq .f32 x6 x6)
  (cond (narrowOk (r111 (-1)))
   (cond (narrowOk (r111 1))
    (0, x0, x1, (narrow (r111 (-1))), (narrow (r111 1)), 0, 0)
    (2, 0, 0, 0, 0, 0, 0))
   (2, 0, 0, 0, 0, 0, 0))
  (cond (flt .f32 x6 x0)
   (cond (fgt .f32 x6 x1)
    (cond (Nat.beq ((r100l0b x6 x6 x2 x3 x4 x5 x6 x7).1) 0)
     (0, x6, x6, ((r100l0b x6 x6 x2 x3 x4 x5 x6 x7).2.1), ((r100l0b x6 x6 x2 x3 x4 x5 x6 x7).2.2.1), 0, 0)
     (cond (Nat.beq ((r100l0b x6 x6 x2 x3 x4 x5 x6 x7).1) 1)
      (1, 0, 0, 0, 0, ((r100l0b x6 x6 x2 x3 x4 x5 x6 x7).2.2.2.1), ((r100l0b x6 x6 x2 x3 x4 x5 x6 x7).2.2.2.2))
      (2, 0, 0, 0, 0, 0, 0)))
    (cond (Nat.beq ((r100l0b x6 x1 x2 x3 x4 x5 x6 x7).1) 0)
     (0, x6, x1, ((r100l0b x6 x1 x2 x3 x4 x5 x6 x7).2.1), ((r100l0b x6 x1 x2 x3 x4 x5 x6 x7).2.2.1), 0, 0)
     (cond (Nat.beq ((r100l0b x6 x1 x2 x3 x4 x5 x6 x7).1) 1)
      (1, 0, 0, 0, 0, ((r100l0b x6 x1 x2 x3 x4 x5 x6 x7).2.2.2.1), ((r100l0b x6 x1 x2 x3 x4 x5 x6 x7).2.2.2.2))
      (2, 0, 0, 0, 0, 0, 0))))
   (cond (fgt .f32 x6 x1)
    (cond (Nat.beq ((r100l0b x0 x6 x2 x3 x4 x5 x6 x7).1) 0)
     (0, x0, x6, ((r100l0b x0 x6 x2 x3 x4 x5 x6 x7).2.1), ((r100l0b x0 x6 x2 x3 x4 x5 x6 x7).2.2.1), 0, 0)
     (cond (Nat.beq ((r100l0b x0 x6 x2 x3 x4 x5 x6 x7).1) 1)
      (1, 0, 0, 0, 0, ((r100l0b x0 x6 x2 x3 x4 x5 x6 x7).2.2.2.1), ((r100l0b x0 x6 x2 x3 x4 x5 x6 x7).2.2.2.2))
      (2, 0, 0, 0, 0, 0, 0)))
    (cond (Nat.beq ((r100l0b x0 x1 x2 x3 x4 x5 x6 x7).1) 0)
     (0, x0, x1, ((r100l0b x0 x1 x2 x3 x4 x5 x6 x7).2.1), ((r100l0b x0 x1 x2 x3 x4 x5 x6 x7).2.2.1), 0, 0)
     (cond (Nat.beq ((r100l0b x0 x1 x2 x3 x4 x5 x6 x7).1) 1)
      (1, 0, 0, 0, 0, ((r100l0b x0 x1 x2 x3 x4 x5 x6 x7).2.2.2.1), ((r100l0b x0 x1 x2 x3 x4 x5 x6 x7).2.2.2.2))
      (2, 0, 0, 0, 0, 0, 0)))))
noncomputable def a100l0c (x0 x1 x2 x3 x4 x5 x6 x7 : Nat) (p : Nat × Nat × Nat × Nat × Nat × Nat × Nat) : Option (Fin' × List Value × St) := firstT ([((Nat.beq (p.1) 0), .ret, [.pointer (some ⟨0, 0, some 0⟩), .float .f32 (p.2.1), .float .f32 (p.2.2.1)], ⟨[⟨true, (some (.cells [.float .f32 (p.2.2.2.1), .float .f32 (p.2.2.2.2.1)]))⟩, ⟨true, (some (.cells [.float .f32 x4, .float .f32 x5, .float .f32 x6, .float .f32 x7]))⟩], 2, [0]⟩), ((Nat.beq (p.1) 1), .exit 0, [.pointer (some ⟨0, 0, some 0⟩), .float .f32 (p.2.2.2.2.2.1), .float .f32 (p.2.2.2.2.2.2)], ⟨[⟨true, (some (.cells [.float .f32 x2, .float .f32 x3]))⟩, ⟨true, (some (.cells [.float .f32 x4, .float .f32 x5, .float .f32 x6, .float .f32 x7]))⟩], 2, [0]⟩)].map fun (b, x) => (b, (x.1, frameOf 63 [4, 6, 7] x.2.1, x.2.2)))
noncomputable def w100l0c (x0 x1 x2 x3 x4 x5 x6 x7 : Nat) : Option (Fin' × List Value × St) :=
 (cond (!feq .f32 x6 x6)
 (cond (narrowOk (r111 (-1)))
  (cond (narrowOk (r111 1))
   (a100l0c x0 x1 x2 x3 x4 x5 x6 x7 (0, x0, x1, (narrow (r111 (-1))), (narrow (r111 1)), 0, 0))
   none)
  none)
 (cond (flt .f32 x6 x0)
  (cond (fgt .f32 x6 x1)
   (cond (Nat.beq ((r100l0b x6 x6 x2 x3 x4 x5 x6 x7).1) 0)
    (a100l0c x0 x1 x2 x3 x4 x5 x6 x7 (0, x6, x6, ((r100l0b x6 x6 x2 x3 x4 x5 x6 x7).2.1), ((r100l0b x6 x6 x2 x3 x4 x5 x6 x7).2.2.1), 0, 0))
    (cond (Nat.beq ((r100l0b x6 x6 x2 x3 x4 x5 x6 x7).1) 1)
     (a100l0c x0 x1 x2 x3 x4 x5 x6 x7 (1, 0, 0, 0, 0, ((r100l0b x6 x6 x2 x3 x4 x5 x6 x7).2.2.2.1), ((r100l0b x6 x6 x2 x3 x4 x5 x6 x7).2.2.2.2)))
     none))
   (cond (Nat.beq ((r100l0b x6 x1 x2 x3 x4 x5 x6 x7).1) 0)
    (a100l0c x0 x1 x2 x3 x4 x5 x6 x7 (0, x6, x1, ((r100l0b x6 x1 x2 x3 x4 x5 x6 x7).2.1), ((r100l0b x6 x1 x2 x3 x4 x5 x6 x7).2.2.1), 0, 0))
    (cond (Nat.beq ((r100l0b x6 x1 x2 x3 x4 x5 x6 x7).1) 1)
     (a100l0c x0 x1 x2 x3 x4 x5 x6 x7 (1, 0, 0, 0, 0, ((r100l0b x6 x1 x2 x3 x4 x5 x6 x7).2.2.2.1), ((r100l0b x6 x1 x2 x3 x4 x5 x6 x7).2.2.2.2)))
     none)))
  (cond (fgt .f32 x6 x1)
   (cond (Nat.beq ((r100l0b x0 x6 x2 x3 x4 x5 x6 x7).1) 0)
    (a100l0c x0 x1 x2 x3 x4 x5 x6 x7 (0, x0, x6, ((r100l0b x0 x6 x2 x3 x4 x5 x6 x7).2.1), ((r100l0b x0 x6 x2 x3 x4 x5 x6 x7).2.2.1), 0, 0))
    (cond (Nat.beq ((r100l0b x0 x6 x2 x3 x4 x5 x6 x7).1) 1)
     (a100l0c x0 x1 x2 x3 x4 x5 x6 x7 (1, 0, 0, 0, 0, ((r100l0b x0 x6 x2 x3 x4 x5 x6 x7).2.2.2.1), ((r100l0b x0 x6 x2 x3 x4 x5 x6 x7).2.2.2.2)))
     none))
   (cond (Nat.beq ((r100l0b x0 x1 x2 x3 x4 x5 x6 x7).1) 0)
    (a100l0c x0 x1 x2 x3 x4 x5 x6 x7 (0, x0, x1, ((r100l0b x0 x1 x2 x3 x4 x5 x6 x7).2.1), ((r100l0b x0 x1 x2 x3 x4 x5 x6 x7).2.2.1), 0, 0))
    (cond (Nat.beq ((r100l0b x0 x1 x2 x3 x4 x5 x6 x7).1) 1)
     (a100l0c x0 x1 x2 x3 x4 x5 x6 x7 (1, 0, 0, 0, 0, ((r100l0b x0 x1 x2 x3 x4 x5 x6 x7).2.2.2.1), ((r100l0b x0 x1 x2 x3 x4 x5 x6 x7).2.2.2.2)))
     none)))))
set_option maxRecDepth 100000 in
set_option maxHeartbeats 4000000 in
theorem e100l0c (x0 x1 x2 x3 x4 x5 x6 x7 : Nat) : evC Try.prog ext T26 L100_2 200 (loopN Try.f100 0) (loopTail ([4, 5, 6, 7, 8], []) [4, 6, 7] [] (sumK 63 [4, 5, 6, 7, 8] [4, 6, 7] Q100l0b)) (frameOf 63 [4, 5, 6, 7, 8] [.pointer (some ⟨0, 0, some 0⟩), .pointer (some ⟨1, 0, some 0⟩), .float .f32 x0, .float .f32 x1, .int .i64 2]) ⟨[⟨true, (some (.cells [.float .f32 x2, .float .f32 x3]))⟩, ⟨true, (some (.cells [.float .f32 x4, .float .f32 x5, .float .f32 x6, .float .f32 x7]))⟩], 2, []⟩ = firstT ([((Nat.beq ((r100l0c x0 x1 x2 x3 x4 x5 x6 x7).1) 0), .ret, [.pointer (some ⟨0, 0, some 0⟩), .float .f32 ((r100l0c x0 x1 x2 x3 x4 x5 x6 x7).2.1), .float .f32 ((r100l0c x0 x1 x2 x3 x4 x5 x6 x7).2.2.1)], ⟨[⟨true, (some (.cells [.float .f32 ((r100l0c x0 x1 x2 x3 x4 x5 x6 x7).2.2.2.1), .float .f32 ((r100l0c x0 x1 x2 x3 x4 x5 x6 x7).2.2.2.2.1)]))⟩, ⟨true, (some (.cells [.float .f32 x4, .float .f32 x5, .float .f32 x6, .float .f32 x7]))⟩], 2, [0]⟩), ((Nat.beq ((r100l0c x0 x1 x2 x3 x4 x5 x6 x7).1) 1), .exit 0, [.pointer (some ⟨0, 0, some 0⟩), .float .f32 ((r100l0c x0 x1 x2 x3 x4 x5 x6 x7).2.2.2.2.2.1), .float .f32 ((r100l0c x0 x1 x2 x3 x4 x5 x6 x7).2.2.2.2.2.2)], ⟨[⟨true, (some (.cells [.float .f32 x2, .float .f32 x3]))⟩, ⟨true, (some (.cells [.float .f32 x4, .float .f32 x5, .float .f32 x6, .float .f32 x7]))⟩], 2, [0]⟩)].map fun (b, x) => (b, (x.1, frameOf 63 [4, 6, 7] x.2.1, x.2.2))) :=
 (show evC Try.prog ext T26 L100_2 200 (loopN Try.f100 0) (loopTail ([4, 5, 6, 7, 8], []) [4, 6, 7] [] (sumK 63 [4, 5, 6, 7, 8] [4, 6, 7] Q100l0b)) (frameOf 63 [4, 5, 6, 7, 8] [.pointer (some ⟨0, 0, some 0⟩), .pointer (some ⟨1, 0, some 0⟩), .float .f32 x0, .float .f32 x1, .int .i64 2]) ⟨[⟨true, (some (.cells [.float .f32 x2, .float .f32 x3]))⟩, ⟨true, (some (.cells [.float .f32 x4, .float .f32 x5, .float .f32 x6, .float .f32 x7]))⟩], 2, []⟩ = w100l0c x0 x1 x2 x3 x4 x5 x6 x7 from by kernel_rfl).trans
 (show w100l0c x0 x1 x2 x3 x4 x5 x6 x7 = a100l0c x0 x1 x2 x3 x4 x5 x6 x7 (r100l0c x0 x1 x2 x3 x4 x5 x6 x7) from by unfold w100l0c r100l0c; exact (cond_app (a100l0c x0 x1 x2 x3 x4 x5 x6 x7) _ (cond_app (a100l0c x0 x1 x2 x3 x4 x5 x6 x7) _ (cond_app (a100l0c x0 x1 x2 x3 x4 x5 x6 x7) _ rfl rfl) rfl) (cond_app (a100l0c x0 x1 x2 x3 x4 x5 x6 x7) _ (cond_app (a100l0c x0 x1 x2 x3 x4 x5 x6 x7) _ (cond_app (a100l0c x0 x1 x2 x3 x4 x5 x6 x7) _ rfl (cond_app (a100l0c x0 x1 x2 x3 x4 x5 x6 x7) _ rfl rfl)) (cond_app (a100l0c x0 x1 x2 x3 x4 x5 x6 x7) _ rfl (cond_app (a100l0c x0 x1 x2 x3 x4 x5 x6 x7) _ rfl rfl))) (cond_app (a100l0c x0 x1 x2 x3 x4 x5 x6 x7) _ (cond_app (a100l0c x0 x1 x2 x3 x4 x5 x6 x7) _ rfl (cond_app (a100l0c x0 x1 x2 x3 x4 x5 x6 x7) _ rfl rfl)) (cond_app (a100l0c x0 x1 x2 x3 x4 x5 x6 x7) _ rfl (cond_app (a100l0c x0 x1 x2 x3 x4 x5 x6 x7) _ rfl rfl))))))
noncomputable def Q100l0c : SumK := fun vals s =>
 match vals, s.h with
 | [.pointer (some ⟨f0, f1, some f2⟩), .pointer (some ⟨f3, f4, some f5⟩), .float .f32 x0, .float .f32 x1, .int .i64 f6], [⟨true, some (.cells [.float .f32 x2, .float .f32 x3])⟩, ⟨true, some (.cells [.float .f32 x4, .float .f32 x5, .float .f32 x6, .float .f32 x7])⟩] => if f0 = 0 ∧ f1 = 0 ∧ f2 = 0 ∧ f3 = 1 ∧ f4 = 0 ∧ f5 = 0 ∧ f6 = 2 then [((Nat.beq ((r100l0c x0 x1 x2 x3 x4 x5 x6 x7).1) 0), .ret, [.pointer (some ⟨0, 0, some 0⟩), .float .f32 ((r100l0c x0 x1 x2 x3 x4 x5 x6 x7).2.1), .float .f32 ((r100l0c x0 x1 x2 x3 x4 x5 x6 x7).2.2.1)], ⟨[⟨true, (some (.cells [.float .f32 ((r100l0c x0 x1 x2 x3 x4 x5 x6 x7).2.2.2.1), .float .f32 ((r100l0c x0 x1 x2 x3 x4 x5 x6 x7).2.2.2.2.1)]))⟩, ⟨true, (some (.cells [.float .f32 x4, .float .f32 x5, .float .f32 x6, .float .f32 x7]))⟩], 2, [0]⟩), ((Nat.beq ((r100l0c x0 x1 x2 x3 x4 x5 x6 x7).1) 1), .exit 0, [.pointer (some ⟨0, 0, some 0⟩), .float .f32 ((r100l0c x0 x1 x2 x3 x4 x5 x6 x7).2.2.2.2.2.1), .float .f32 ((r100l0c x0 x1 x2 x3 x4 x5 x6 x7).2.2.2.2.2.2)], ⟨[⟨true, (some (.cells [.float .f32 x2, .float .f32 x3]))⟩, ⟨true, (some (.cells [.float .f32 x4, .float .f32 x5, .float .f32 x6, .float .f32 x7]))⟩], 2, [0]⟩)] else Q100l0b vals s
 | _, _ => Q100l0b vals s
set_option maxRecDepth 100000 in
set_option maxHeartbeats 4000000 in
theorem qok100l0c : SumKOk Try.prog (loopN Try.f100 0) 63 [4, 5, 6, 7, 8] [4, 6, 7] Q100l0c := by
  intro vals s x h1 h2 h3
  unfold Q100l0c at h3; split at h3
  · rename_i h; split at h3
    · rename_i hc; obtain ⟨rfl, rfl, rfl, rfl, rfl, rfl, rfl⟩ := hc; exact sum_step ok26 extOk mixed (lok100_2.inner (by kernel_rfl)) qok100l0b h1 h2 h (e100l0c _ _ _ _ _ _ _ _) rfl h3
    · exact qok100l0b _ _ _ h1 h2 h3
  · exact qok100l0b _ _ _ h1 h2 h3
noncomputable def L100_3 : LoopT := addL L100_2 6 ([4, 5, 6, 7, 8], []) (sumK 63 [4, 5, 6, 7, 8] [4, 6, 7] Q100l0c)
theorem lok100_3 : LfOkF Try.prog L100_3 Try.f100 := lfOkF_add lok100_2 qok100l0c (by kernel_rfl) (by kernel_rfl) (by kernel_rfl)

/-- spec.l05Mul, loop 0 -/
noncomputable def r100l0d (x0 x1 x2 x3 x4 x5 x6 x7 : Nat) : Nat × Nat × Nat × Nat × Nat × Nat × Nat :=
 cond (!feq .f32 x5 x5)
  (cond (narrowOk (r111 (-1)))
   (cond (narrowOk (r111 1))
    (0, x0, x1, (narrow (r111 (-1))), (narrow (r111 1)), 0, 0)
    (2, 0, 0, 0, 0, 0, 0))
   (2, 0, 0, 0, 0, 0, 0))
  (cond (flt .f32 x5 x0)
   (cond (fgt .f32 x5 x1)
    (cond (Nat.beq ((r100l0c x5 x5 x2 x3 x4 x5 x6 x7).1) 0)
     (0, ((r100l0c x5 x5 x2 x3 x4 x5 x6 x7).2.1), ((r100l0c x5 x5 x2 x3 x4 x5 x6 x7).2.2.1), ((r100l0c x5 x5 x2 x3 x4 x5 x6 x7).2.2.2.1), ((r100l0c x5 x5 x2 x3 x4 x5 x6 x7).2.2.2.2.1), 0, 0)
     (cond (Nat.beq ((r100l0c x5 x5 x2 x3 x4 x5 x6 x7).1) 1)
      (1, 0, 0, 0, 0, ((r100l0c x5 x5 x2 x3 x4 x5 x6 x7).2.2.2.2.2.1), ((r100l0c x5 x5 x2 x3 x4 x5 x6 x7).2.2.2.2.2.2))
      (2, 0, 0, 0, 0, 0, 0)))
    (cond (Nat.beq ((r100l0c x5 x1 x2 x3 x4 x5 x6 x7).1) 0)
     (0, ((r100l0c x5 x1 x2 x3 x4 x5 x6 x7).2.1), ((r100l0c x5 x1 x2 x3 x4 x5 x6 x7).2.2.1), ((r100l0c x5 x1 x2 x3 x4 x5 x6 x7).2.2.2.1), ((r100l0c x5 x1 x2 x3 x4 x5 x6 x7).2.2.2.2.1), 0, 0)
     (cond (Nat.beq ((r100l0c x5 x1 x2 x3 x4 x5 x6 x7).1) 1)
      (1, 0, 0, 0, 0, ((r100l0c x5 x1 x2 x3 x4 x5 x6 x7).2.2.2.2.2.1), ((r100l0c x5 x1 x2 x3 x4 x5 x6 x7).2.2.2.2.2.2))
      (2, 0, 0, 0, 0, 0, 0))))
   (cond (fgt .f32 x5 x1)
    (cond (Nat.beq ((r100l0c x0 x5 x2 x3 x4 x5 x6 x7).1) 0)
     (0, ((r100l0c x0 x5 x2 x3 x4 x5 x6 x7).2.1), ((r100l0c x0 x5 x2 x3 x4 x5 x6 x7).2.2.1), ((r100l0c x0 x5 x2 x3 x4 x5 x6 x7).2.2.2.1), ((r100l0c x0 x5 x2 x3 x4 x5 x6 x7).2.2.2.2.1), 0, 0)
     (cond (Nat.beq ((r100l0c x0 x5 x2 x3 x4 x5 x6 x7).1) 1)
      (1, 0, 0, 0, 0, ((r100l0c x0 x5 x2 x3 x4 x5 x6 x7).2.2.2.2.2.1), ((r100l0c x0 x5 x2 x3 x4 x5 x6 x7).2.2.2.2.2.2))
      (2, 0, 0, 0, 0, 0, 0)))
    (cond (Nat.beq ((r100l0c x0 x1 x2 x3 x4 x5 x6 x7).1) 0)
     (0, ((r100l0c x0 x1 x2 x3 x4 x5 x6 x7).2.1), ((r100l0c x0 x1 x2 x3 x4 x5 x6 x7).2.2.1), ((r100l0c x0 x1 x2 x3 x4 x5 x6 x7).2.2.2.1), ((r100l0c x0 x1 x2 x3 x4 x5 x6 x7).2.2.2.2.1), 0, 0)
     (cond (Nat.beq ((r100l0c x0 x1 x2 x3 x4 x5 x6 x7).1) 1)
      (1, 0, 0, 0, 0, ((r100l0c x0 x1 x2 x3 x4 x5 x6 x7).2.2.2.2.2.1), ((r100l0c x0 x1 x2 x3 x4 x5 x6 x7).2.2.2.2.2.2))
      (2, 0, 0, 0, 0, 0, 0)))))
noncomputable def a100l0d (x0 x1 x2 x3 x4 x5 x6 x7 : Nat) (p : Nat × Nat × Nat × Nat × Nat × Nat × Nat) : Option (Fin' × List Value × St) := firstT ([((Nat.beq (p.1) 0), .ret, [.pointer (some ⟨0, 0, some 0⟩), .float .f32 (p.2.1), .float .f32 (p.2.2.1)], ⟨[⟨true, (some (.cells [.float .f32 (p.2.2.2.1), .float .f32 (p.2.2.2.2.1)]))⟩, ⟨true, (some (.cells [.float .f32 x4, .float .f32 x5, .float .f32 x6, .float .f32 x7]))⟩], 2, [0]⟩), ((Nat.beq (p.1) 1), .exit 0, [.pointer (some ⟨0, 0, some 0⟩), .float .f32 (p.2.2.2.2.2.1), .float .f32 (p.2.2.2.2.2.2)], ⟨[⟨true, (some (.cells [.float .f32 x2, .float .f32 x3]))⟩, ⟨true, (some (.cells [.float .f32 x4, .float .f32 x5, .float .f32 x6, .float .f32 x7]))⟩], 2, [0]⟩)].map fun (b, x) => (b, (x.1, frameOf 63 [4, 6, 7] x.2.1, x.2.2)))
noncomputable def w100l0d (x0 x1 x2 x3 x4 x5 x6 x7 : Nat) : Option (Fin' × List Value × St) :=
 (cond (!feq .f32 x5 x5)
 (cond (narrowOk (r111 (-1)))
  (cond (narrowOk (r111 1))
   (a100l0d x0 x1 x2 x3 x4 x5 x6 x7 (0, x0, x1, (narrow (r111 (-1))), (narrow (r111 1)), 0, 0))
   none)
  none)
 (cond (flt .f32 x5 x0)
  (cond (fgt .f32 x5 x1)
   (cond (Nat.beq ((r100l0c x5 x5 x2 x3 x4 x5 x6 x7).1) 0)
    (a100l0d x0 x1 x2 x3 x4 x5 x6 x7 (0, ((r100l0c x5 x5 x2 x3 x4 x5 x6 x7).2.1), ((r100l0c x5 x5 x2 x3 x4 x5 x6 x7).2.2.1), ((r100l0c x5 x5 x2 x3 x4 x5 x6 x7).2.2.2.1), ((r100l0c x5 x5 x2 x3 x4 x5 x6 x7).2.2.2.2.1), 0, 0))
    (cond (Nat.beq ((r100l0c x5 x5 x2 x3 x4 x5 x6 x7).1) 1)
     (a100l0d x0 x1 x2 x3 x4 x5 x6 x7 (1, 0, 0, 0, 0, ((r100l0c x5 x5 x2 x3 x4 x5 x6 x7).2.2.2.2.2.1), ((r100l0c x5 x5 x2 x3 x4 x5 x6 x7).2.2.2.2.2.2)))
     none))
   (cond (Nat.beq ((r100l0c x5 x1 x2 x3 x4 x5 x6 x7).1) 0)
    (a100l0d x0 x1 x2 x3 x4 x5 x6 x7 (0, ((r100l0c x5 x1 x2 x3 x4 x5 x6 x7).2.1), ((r100l0c x5 x1 x2 x3 x4 x5 x6 x7).2.2.1), ((r100l0c x5 x1 x2 x3 x4 x5 x6 x7).2.2.2.1), ((r100l0c x5 x1 x2 x3 x4 x5 x6 x7).2.2.2.2.1), 0, 0))
    (cond (Nat.beq ((r100l0c x5 x1 x2 x3 x4 x5 x6 x7).1) 1)
     (a100l0d x0 x1 x2 x3 x4 x5 x6 x7 (1, 0, 0, 0, 0, ((r100l0c x5 x1 x2 x3 x4 x5 x6 x7).2.2.2.2.2.1), ((r100l0c x5 x1 x2 x3 x4 x5 x6 x7).2.2.2.2.2.2)))
     none)))
  (cond (fgt .f32 x5 x1)
   (cond (Nat.beq ((r100l0c x0 x5 x2 x3 x4 x5 x6 x7).1) 0)
    (a100l0d x0 x1 x2 x3 x4 x5 x6 x7 (0, ((r100l0c x0 x5 x2 x3 x4 x5 x6 x7).2.1), ((r100l0c x0 x5 x2 x3 x4 x5 x6 x7).2.2.1), ((r100l0c x0 x5 x2 x3 x4 x5 x6 x7).2.2.2.1), ((r100l0c x0 x5 x2 x3 x4 x5 x6 x7).2.2.2.2.1), 0, 0))
    (cond (Nat.beq ((r100l0c x0 x5 x2 x3 x4 x5 x6 x7).1) 1)
     (a100l0d x0 x1 x2 x3 x4 x5 x6 x7 (1, 0, 0, 0, 0, ((r100l0c x0 x5 x2 x3 x4 x5 x6 x7).2.2.2.2.2.1), ((r100l0c x0 x5 x2 x3 x4 x5 x6 x7).2.2.2.2.2.2)))
     none))
   (cond (Nat.beq ((r100l0c x0 x1 x2 x3 x4 x5 x6 x7).1) 0)
    (a100l0d x0 x1 x2 x3 x4 x5 x6 x7 (0, ((r100l0c x0 x1 x2 x3 x4 x5 x6 x7).2.1), ((r100l0c x0 x1 x2 x3 x4 x5 x6 x7).2.2.1), ((r100l0c x0 x1 x2 x3 x4 x5 x6 x7).2.2.2.1), ((r100l0c x0 x1 x2 x3 x4 x5 x6 x7).2.2.2.2.1), 0, 0))
    (cond (Nat.beq ((r100l0c x0 x1 x2 x3 x4 x5 x6 x7).1) 1)
     (a100l0d x0 x1 x2 x3 x4 x5 x6 x7 (1, 0, 0, 0, 0, ((r100l0c x0 x1 x2 x3 x4 x5 x6 x7).2.2.2.2.2.1), ((r100l0c x0 x1 x2 x3 x4 x5 x6 x7).2.2.2.2.2.2)))
     none)))))
set_option maxRecDepth 100000 in
set_option maxHeartbeats 4000000 in
theorem e100l0d (x0 x1 x2 x3 x4 x5 x6 x7 : Nat) : evC Try.prog ext T26 L100_3 200 (loopN Try.f100 0) (loopTail ([4, 5, 6, 7, 8], []) [4, 6, 7] [] (sumK 63 [4, 5, 6, 7, 8] [4, 6, 7] Q100l0c)) (frameOf 63 [4, 5, 6, 7, 8] [.pointer (some ⟨0, 0, some 0⟩), .pointer (some ⟨1, 0, some 0⟩), .float .f32 x0, .float .f32 x1, .int .i64 1]) ⟨[⟨true, (some (.cells [.float .f32 x2, .float .f32 x3]))⟩, ⟨true, (some (.cells [.float .f32 x4, .float .f32 x5, .float .f32 x6, .float .f32 x7]))⟩], 2, []⟩ = firstT ([((Nat.beq ((r100l0d x0 x1 x2 x3 x4 x5 x6 x7).1) 0), .ret, [.pointer (some ⟨0, 0, some 0⟩), .float .f32 ((r100l0d x0 x1 x2 x3 x4 x5 x6 x7).2.1), .float .f32 ((r100l0d x0 x1 x2 x3 x4 x5 x6 x7).2.2.1)], ⟨[⟨true, (some (.cells [.float .f32 ((r100l0d x0 x1 x2 x3 x4 x5 x6 x7).2.2.2.1), .float .f32 ((r100l0d x0 x1 x2 x3 x4 x5 x6 x7).2.2.2.2.1)]))⟩, ⟨true, (some (.cells [.float .f32 x4, .float .f32 x5, .float .f32 x6, .float .f32 x7]))⟩], 2, [0]⟩), ((Nat.beq ((r100l0d x0 x1 x2 x3 x4 x5 x6 x7).1) 1), .exit 0, [.pointer (some ⟨0, 0, some 0⟩), .float .f32 ((r100l0d x0 x1 x2 x3 x4 x5 x6 x7).2.2.2.2.2.1), .float .f32 ((r100l0d x0 x1 x2 x3 x4 x5 x6 x7).2.2.2.2.2.2)], ⟨[⟨true, (some (.cells [.float .f32 x2, .float .f32 x3]))⟩, ⟨true, (some (.cells [.float .f32 x4, .float .f32 x5, .float .f32 x6, .float .f32 x7]))⟩], 2, [0]⟩)].map fun (b, x) => (b, (x.1, frameOf 63 [4, 6, 7] x.2.1, x.2.2))) :=
 (show evC Try.prog ext T26 L100_3 200 (loopN Try.f100 0) (loopTail ([4, 5, 6, 7, 8], []) [4, 6, 7] [] (sumK 63 [4, 5, 6, 7, 8] [4, 6, 7] Q100l0c)) (frameOf 63 [4, 5, 6, 7, 8] [.pointer (some ⟨0, 0, some 0⟩), .pointer (some ⟨1, 0, some 0⟩), .float .f32 x0, .float .f32 x1, .int .i64 1]) ⟨[⟨true, (some (.cells [.float .f32 x2, .float .f32 x3]))⟩, ⟨true, (some (.cells [.float .f32 x4, .float .f32 x5, .float .f32 x6, .float .f32 x7]))⟩], 2, []⟩ = w100l0d x0 x1 x2 x3 x4 x5 x6 x7 from by kernel_rfl).trans
 (show w100l0d x0 x1 x2 x3 x4 x5 x6 x7 = a100l0d x0 x1 x2 x3 x4 x5 x6 x7 (r100l0d x0 x1 x2 x3 x4 x5 x6 x7) from by unfold w100l0d r100l0d; exact (cond_app (a100l0d x0 x1 x2 x3 x4 x5 x6 x7) _ (cond_app (a100l0d x0 x1 x2 x3 x4 x5 x6 x7) _ (cond_app (a100l0d x0 x1 x2 x3 x4 x5 x6 x7) _ rfl rfl) rfl) (cond_app (a100l0d x0 x1 x2 x3 x4 x5 x6 x7) _ (cond_app (a100l0d x0 x1 x2 x3 x4 x5 x6 x7) _ (cond_app (a100l0d x0 x1 x2 x3 x4 x5 x6 x7) _ rfl (cond_app (a100l0d x0 x1 x2 x3 x4 x5 x6 x7) _ rfl rfl)) (cond_app (a100l0d x0 x1 x2 x3 x4 x5 x6 x7) _ rfl (cond_app (a100l0d x0 x1 x2 x3 x4 x5 x6 x7) _ rfl rfl))) (cond_app (a100l0d x0 x1 x2 x3 x4 x5 x6 x7) _ (cond_app (a100l0d x0 x1 x2 x3 x4 x5 x6 x7) _ rfl (cond_app (a100l0d x0 x1 x2 x3 x4 x5 x6 x7) _ rfl rfl)) (cond_app (a100l0d x0 x1 x2 x3 x4 x5 x6 x7) _ rfl (cond_app (a100l0d x0 x1 x2 x3 x4 x5 x6 x7) _ rfl rfl))))))
noncomputable def Q100l0d : SumK := fun vals s =>
 match vals, s.h with
 | [.pointer (some ⟨f0, f1, some f2⟩), .pointer (some ⟨f3, f4, some f5⟩), .float .f32 x0, .float .f32 x1, .int .i64 f6], [⟨true, some (.cells [.float .f32 x2, .float .f32 x3])⟩, ⟨true, some (.cells [.float .f32 x4, .float .f32 x5, .float .f32 x6, .float .f32 x7])⟩] => if f0 = 0 ∧ f1 = 0 ∧ f2 = 0 ∧ f3 = 1 ∧ f4 = 0 ∧ f5 = 0 ∧ f6 = 1 then [((Nat.beq ((r100l0d x0 x1 x2 x3 x4 x5 x6 x7).1) 0), .ret, [.pointer (some ⟨0, 0, some 0⟩), .float .f32 ((r100l0d x0 x1 x2 x3 x4 x5 x6 x7).2.1), .float .f32 ((r100l0d x0 x1 x2 x3 x4 x5 x6 x7).2.2.1)], ⟨[⟨true, (some (.cells [.float .f32 ((r100l0d x0 x1 x2 x3 x4 x5 x6 x7).2.2.2.1), .float .f32 ((r100l0d x0 x1 x2 x3 x4 x5 x6 x7).2.2.2.2.1)]))⟩, ⟨true, (some (.cells [.float .f32 x4, .float .f32 x5, .float .f32 x6, .float .f32 x7]))⟩], 2, [0]⟩), ((Nat.beq ((r100l0d x0 x1 x2 x3 x4 x5 x6 x7).1) 1), .exit 0, [.pointer (some ⟨0, 0, some 0⟩), .float .f32 ((r100l0d x0 x1 x2 x3 x4 x5 x6 x7).2.2.2.2.2.1), .float .f32 ((r100l0d x0 x1 x2 x3 x4 x5 x6 x7).2.2.2.2.2.2)], ⟨[⟨true, (some (.cells [.float .f32 x2, .float .f32 x3]))⟩, ⟨true, (some (.cells [.float .f32 x4, .float .f32 x5, .float .f32 x6, .float .f32 x7]))⟩], 2, [0]⟩)] else Q100l0c vals s
 | _, _ => Q100l0c vals s
set_option maxRecDepth 100000 in
set_option maxHeartbeats 4000000 in
theorem qok100l0d : SumKOk Try.prog (loopN Try.f100 0) 63 [4, 5, 6, 7, 8] [4, 6, 7] Q100l0d := by
  intro vals s x h1 h2 h3
  unfold Q100l0d at h3; split at h3
  · rename_i h; split at h3
    · rename_i hc; obtain ⟨rfl, rfl, rfl, rfl, rfl, rfl, rfl⟩ := hc; exact sum_step ok26 extOk mixed (lok100_3.inner (by kernel_rfl)) qok100l0c h1 h2 h (e100l0d _ _ _ _ _ _ _ _) rfl h3
    · exact qok100l0c _ _ _ h1 h2 h3
  · exact qok100l0c _ _ _ h1 h2 h3
noncomputable def L100_4 : LoopT := addL L100_3 6 ([4, 5, 6, 7, 8], []) (sumK 63 [4, 5, 6, 7, 8] [4, 6, 7] Q100l0d)
theorem lok100_4 : LfOkF Try.prog L100_4 Try.f100 := lfOkF_add lok100_3 qok100l0d (by kernel_rfl) (by kernel_rfl) (by kernel_rfl)

/-- spec.l05Mul, loop 0 -/
noncomputable def r100l0e (x0 x1 x2 x3 x4 x5 x6 x7 : Nat) : Nat × Nat × Nat × Nat × Nat × Nat × Nat :=
 cond (!feq .f32 x4 x4)
  (cond (narrowOk (r111 (-1)))
   (cond (narrowOk (r111 1))
    (0, x0, x1, (narrow (r111 (-1))), (narrow (r111 1)), 0, 0)
    (2, 0, 0, 0, 0, 0, 0))
   (2, 0, 0, 0, 0, 0, 0))
  (cond (flt .f32 x4 x0)
   (cond (fgt .f32 x4 x1)
    (cond (Nat.beq ((r100l0d x4 x4 x2 x3 x4 x5 x6 x7).1) 0)
     (0, ((r100l0d x4 x4 x2 x3 x4 x5 x6 x7).2.1), ((r100l0d x4 x4 x2 x3 x4 x5 x6 x7).2.2.1), ((r100l0d x4 x4 x2 x3 x4 x5 x6 x7).2.2.2.1), ((r100l0d x4 x4 x2 x3 x4 x5 x6 x7).2.2.2.2.1), 0, 0)
     (cond (Nat.beq ((r100l0d x4 x4 x2 x3 x4 x5 x6 x7).1) 1)
      (1, 0, 0, 0, 0, ((r100l0d x4 x4 x2 x3 x4 x5 x6 x7).2.2.2.2.2.1), ((r100l0d x4 x4 x2 x3 x4 x5 x6 x7).2.2.2.2.2.2))
      (2, 0, 0, 0, 0, 0, 0)))
    (cond (Nat.beq ((r100l0d x4 x1 x2 x3 x4 x5 x6 x7).1) 0)
     (0, ((r100l0d x4 x1 x2 x3 x4 x5 x6 x7).2.1), ((r100l0d x4 x1 x2 x3 x4 x5 x6 x7).2.2.1), ((r100l0d x4 x1 x2 x3 x4 x5 x6 x7).2.2.2.1), ((r100l0d x4 x1 x2 x3 x4 x5 x6 x7).2.2.2.2.1), 0, 0)
     (cond (Nat.beq ((r100l0d x4 x1 x2 x3 x4 x5 x6 x7).1) 1)
      (1, 0, 0, 0, 0, ((r100l0d x4 x1 x2 x3 x4 x5 x6 x7).2.2.2.2.2.1), ((r100l0d x4 x1 x2 x3 x4 x5 x6 x7).2.2.2.2.2.2))
      (2, 0, 0, 0, 0, 0, 0))))
   (cond (fgt .f32 x4 x1)
    (cond (Nat.beq ((r100l0d x0 x4 x2 x3 x4 x5 x6 x7).1) 0)
     (0, ((r100l0d x0 x4 x2 x3 x4 x5 x6 x7).2.1), ((r100l0d x0 x4 x2 x3 x4 x5 x6 x7).2.2.1), ((r100l0d x0 x4 x2 x3 x4 x5 x6 x7).2.2.2.1), ((r100l0d x0 x4 x2 x3 x4 x5 x6 x7).2.2.2.2.1), 0, 0)
     (cond (Nat.beq ((r100l0d x0 x4 x2 x3 x4 x5 x6 x7).1) 1)
      (1, 0, 0, 0, 0, ((r100l0d x0 x4 x2 x3 x4 x5 x6 x7).2.2.2.2.2.1), ((r100l0d x0 x4 x2 x3 x4 x5 x6 x7).2.2.2.2.2.2))
      (2, 0, 0, 0, 0, 0, 0)))
    (cond (Nat.beq ((r100l0d x0 x1 x2 x3 x4 x5 x6 x7).1) 0)
     (0, ((r100l0d x0 x1 x2 x3 x4 x5 x6 x7).2.1), ((r100l0d x0 x1 x2 x3 x4 x5 x6 x7).2.2.1), ((r100l0d x0 x1 x2 x3 x4 x5 x6 x7).2.2.2.1), ((r100l0d x0 x1 x2 x3 x4 x5 x6 x7).2.2.2.2.1), 0, 0)
     (cond (Nat.beq ((r100l0d x0 x1 x2 x3 x4 x5 x6 x7).1) 1)
      (1, 0, 0, 0, 0, ((r100l0d x0 x1 x2 x3 x4 x5 x6 x7).2.2.2.2.2.1), ((r100l0d x0 x1 x2 x3 x4 x5 x6 x7).2.2.2.2.2.2))
      (2, 0, 0, 0, 0, 0, 0)))))
noncomputable def a100l0e (x0 x1 x2 x3 x4 x5 x6 x7 : Nat) (p : Nat × Nat × Nat × Nat × Nat × Nat × Nat) : Option (Fin' × List Value × St) := firstT ([((Nat.beq (p.1) 0), .ret, [.pointer (some ⟨0, 0, some 0⟩), .float .f32 (p.2.1), .float .f32 (p.2.2.1)], ⟨[⟨true, (some (.cells [.float .f32 (p.2.2.2.1), .float .f32 (p.2.2.2.2.1)]))⟩, ⟨true, (some (.cells [.float .f32 x4, .float .f32 x5, .float .f32 x6, .float .f32 x7]))⟩], 2, [0]⟩), ((Nat.beq (p.1) 1), .exit 0, [.pointer (some ⟨0, 0, some 0⟩), .float .f32 (p.2.2.2.2.2.1), .float .f32 (p.2.2.2.2.2.2)], ⟨[⟨true, (some (.cells [.float .f32 x2, .float .f32 x3]))⟩, ⟨true, (some (.cells [.float .f32 x4, .float .f32 x5, .float .f32 x6, .float .f32 x7]))⟩], 2, [0]⟩)].map fun (b, x) => (b, (x.1, frameOf 63 [4, 6, 7] x.2.1, x.2.2)))
noncomputable def w100l0e (x0 x1 x2 x3 x4 x5 x6 x7 : Nat) : Option (Fin' × List Value × St) :=
 (cond (!feq .f32 x4 x4)
 (cond (narrowOk (r111 (-1)))
  (cond (narrowOk (r111 1))
   (a100l0e x0 x1 x2 x3 x4 x5 x6 x7 (0, x0, x1, (narrow (r111 (-1))), (narrow (r111 1)), 0, 0))
   none)
  none)
 (cond (flt .f32 x4 x0)
  (cond (fgt .f32 x4 x1)
   (cond (Nat.beq ((r100l0d x4 x4 x2 x3 x4 x5 x6 x7).1) 0)
    (a100l0e x0 x1 x2 x3 x4 x5 x6 x7 (0, ((r100l0d x4 x4 x2 x3 x4 x5 x6 x7).2.1), ((r100l0d x4 x4 x2 x3 x4 x5 x6 x7).2.2.1), ((r100l0d x4 x4 x2 x3 x4 x5 x6 x7).2.2.2.1), ((r100l0d x4 x4 x2 x3 x4 x5 x6 x7).2.2.2.2.1), 0, 0))
    (cond (Nat.beq ((r100l0d x4 x4 x2 x3 x4 x5 x6 x7).1) 1)
     (a100l0e x0 x1 x2 x3 x4 x5 x6 x7 (1, 0, 0, 0, 0, ((r100l0d x4 x4 x2 x3 x4 x5 x6 x7).2.2.2.2.2.1), ((r100l0d x4 x4 x2 x3 x4 x5 x6 x7).2.2.2.2.2.2)))
     none))
   (cond (Nat.beq ((r100l0d x4 x1 x2 x3 x4 x5 x6 x7).1) 0)
    (a100l0e x0 x1 x2 x3 x4 x5 x6 x7 (0, ((r100l0d x4 x1 x2 x3 x4 x5 x6 x7).2.1), ((r100l0d x4 x1 x2 x3 x4 x5 x6 x7).2.2.1), ((r100l0d x4 x1 x2 x3 x4 x5 x6 x7).2.2.2.1), ((r100l0d x4 x1 x2 x3 x4 x5 x6 x7).2.2.2.2.1), 0, 0))
    (cond (Nat.beq ((r100l0d x4 x1 x2 x3 x4 x5 x6 x7).1) 1)
     (a100l0e x0 x1 x2 x3 x4 x5 x6 x7 (1, 0, 0, 0, 0, ((r100l0d x4 x1 x2 x3 x4 x5 x6 x7).2.2.2.2.2.1), ((r100l0d x4 x1 x2 x3 x4 x5 x6 x7).2.2.2.2.2.2)))
     none)))
  (cond (fgt .f32 x4 x1)
   (cond (Nat.beq ((r100l0d x0 x4 x2 x3 x4 x5 x6 x7).1) 0)
    (a100l0e x0 x1 x2 x3 x4 x5 x6 x7 (0, ((r100l0d x0 x4 x2 x3 x4 x5 x6 x7).2.1), ((r100l0d x0 x4 x2 x3 x4 x5 x6 x7).2.2.1), ((r100l0d x0 x4 x2 x3 x4 x5 x6 x7).2.2.2.1), ((r100l0d x0 x4 x2 x3 x4 x5 x6 x7).2.2.2.2.1), 0, 0))
    (cond (Nat.beq ((r100l0d x0 x4 x2 x3 x4 x5 x6 x7).1) 1)
     (a100l0e x0 x1 x2 x3 x4 x5 x6 x7 (1, 0, 0, 0, 0, ((r100l0d x0 x4 x2 x3 x4 x5 x6 x7).2.2.2.2.2.1), ((r100l0d x0 x4 x2 x3 x4 x5 x6 x7).2.2.2.2.2.2)))
     none))
   (cond (Nat.beq ((r100l0d x0 x1 x2 x3 x4 x5 x6 x7).1) 0)
    (a100l0e x0 x1 x2 x3 x4 x5 x6 x7 (0, ((r100l0d x0 x1 x2 x3 x4 x5 x6 x7).2.1), ((r100l0d x0 x1 x2 x3 x4 x5 x6 x7).2.2.1), ((r100l0d x0 x1 x2 x3 x4 x5 x6 x7).2.2.2.1), ((r100l0d x0 x1 x2 x3 x4 x5 x6 x7).2.2.2.2.1), 0, 0))
    (cond (Nat.beq ((r100l0d x0 x1 x2 x3 x4 x5 x6 x7).1) 1)
     (a100l0e x0 x1 x2 x3 x4 x5 x6 x7 (1, 0, 0, 0, 0, ((r100l0d x0 x1 x2 x3 x4 x5 x6 x7).2.2.2.2.2.1), ((r100l0d x0 x1 x2 x3 x4 x5 x6 x7).2.2.2.2.2.2)))
     none)))))
set_option maxRecDepth 100000 in
set_option maxHeartbeats 4000000 in
theorem e100l0e (x0 x1 x2 x3 x4 x5 x6 x7 : Nat) : evC Try.prog ext T26 L100_4 200 (loopN Try.f100 0) (loopTail ([4, 5, 6, 7, 8], []) [4, 6, 7] [] (sumK 63 [4, 5, 6, 7, 8] [4, 6, 7] Q100l0d)) (frameOf 63 [4, 5, 6, 7, 8] [.pointer (some ⟨0, 0, some 0⟩), .pointer (some ⟨1, 0, some 0⟩), .float .f32 x0, .float .f32 x1, .int .i64 0]) ⟨[⟨true, (some (.cells [.float .f32 x2, .float .f32 x3]))⟩, ⟨true, (some (.cells [.float .f32 x4, .float .f32 x5, .float .f32 x6, .float .f32 x7]))⟩], 2, []⟩ = firstT ([((Nat.beq ((r100l0e x0 x1 x2 x3 x4 x5 x6 x7).1) 0), .ret, [.pointer (some ⟨0, 0, some 0⟩), .float .f32 ((r100l0e x0 x1 x2 x3 x4 x5 x6 x7).2.1), .float .f32 ((r100l0e x0 x1 x2 x3 x4 x5 x6 x7).2.2.1)], ⟨[⟨true, (some (.cells [.float .f32 ((r100l0e x0 x1 x2 x3 x4 x5 x6 x7).2.2.2.1), .float .f32 ((r100l0e x0 x1 x2 x3 x4 x5 x6 x7).2.2.2.2.1)]))⟩, ⟨true, (some (.cells [.float .f32 x4, .float .f32 x5, .float .f32 x6, .float .f32 x7]))⟩], 2, [0]⟩), ((Nat.beq ((r100l0e x0 x1 x2 x3 x4 x5 x6 x7).1) 1), .exit 0, [.pointer (some ⟨0, 0, some 0⟩), .float .f32 ((r100l0e x0 x1 x2 x3 x4 x5 x6 x7).2.2.2.2.2.1), .float .f32 ((r100l0e x0 x1 x2 x3 x4 x5 x6 x7).2.2.2.2.2.2)], ⟨[⟨true, (some (.cells [.float .f32 x2, .float .f32 x3]))⟩, ⟨true, (some (.cells [.float .f32 x4, .float .f32 x5, .float .f32 x6, .float .f32 x7]))⟩], 2, [0]⟩)].map fun (b, x) => (b, (x.1, frameOf 63 [4, 6, 7] x.2.1, x.2.2))) :=
 (show evC Try.prog ext T26 L100_4 200 (loopN Try.f100 0) (loopTail ([4, 5, 6, 7, 8], []) [4, 6, 7] [] (sumK 63 [4, 5, 6, 7, 8] [4, 6, 7] Q100l0d)) (frameOf 63 [4, 5, 6, 7, 8] [.pointer (some ⟨0, 0, some 0⟩), .pointer (some ⟨1, 0, some 0⟩), .float .f32 x0, .float .f32 x1, .int .i64 0]) ⟨[⟨true, (some (.cells [.float .f32 x2, .float .f32 x3]))⟩, ⟨true, (some (.cells [.float .f32 x4, .float .f32 x5, .float .f32 x6, .float .f32 x7]))⟩], 2, []⟩ = w100l0e x0 x1 x2 x3 x4 x5 x6 x7 from by kernel_rfl).trans
 (show w100l0e x0 x1 x2 x3 x4 x5 x6 x7 = a100l0e x0 x1 x2 x3 x4 x5 x6 x7 (r100l0e x0 x1 x2 x3 x4 x5 x6 x7) from by unfold w100l0e r100l0e; exact (cond_app (a100l0e x0 x1 x2 x3 x4 x5 x6 x7) _ (cond_app (a100l0e x0 x1 x2 x3 x4 x5 x6 x7) _ (cond_app (a100l0e x0 x1 x2 x3 x4 x5 x6 x7) _ rfl rfl) rfl) (cond_app (a100l0e x0 x1 x2 x3 x4 x5 x6 x7) _ (cond_app (a100l0e x0 x1 x2 x3 x4 x5 x6 x7) _ (cond_app (a100l0e x0 x1 x2 x3 x4 x5 x6 x7) _ rfl (cond_app (a100l0e x0 x1 x2 x3 x4 x5 x6 x7) _ rfl rfl)) (cond_app (a100l0e x0 x1 x2 x3 x4 x5 x6 x7) _ rfl (cond_app (a100l0e x0 x1 x2 x3 x4 x5 x6 x7) _ rfl rfl))) (cond_app (a100l0e x0 x1 x2 x3 x4 x5 x6 x7) _ (cond_app (a100l0e x0 x1 x2 x3 x4 x5 x6 x7) _ rfl (cond_app (a100l0e x0 x1 x2 x3 x4 x5 x6 x7) _ rfl rfl)) (cond_app (a100l0e x0 x1 x2 x3 x4 x5 x6 x7) _ rfl (cond_app (a100l0e x0 x1 x2 x3 x4 x5 x6 x7) _ rfl rfl))))))
noncomputable def Q100l0e : SumK := fun vals s =>
 match vals, s.h with
 | [.pointer (some ⟨f0, f1, some f2⟩), .pointer (some ⟨f3, f4, some f5⟩), .float .f32 x0, .float .f32 x1, .int .i64 f6], [⟨true, some (.cells [.float .f32 x2, .float .f32 x3])⟩, ⟨true, some (.cells [.float .f32 x4, .float .f32 x5, .float .f32 x6, .float .f32 x7])⟩] => if f0 = 0 ∧ f1 = 0 ∧ f2 = 0 ∧ f3 = 1 ∧ f4 = 0 ∧ f5 = 0 ∧ f6 = 0 then [((Nat.beq ((r100l0e x0 x1 x2 x3 x4 x5 x6 x7).1) 0), .ret, [.pointer (some ⟨0, 0, some 0⟩), .float .f32 ((r100l0e x0 x1 x2 x3 x4 x5 x6 x7).2.1), .float .f32 ((r100l0e x0 x1 x2 x3 x4 x5 x6 x7).2.2.1)], ⟨[⟨true, (some (.cells [.float .f32 ((r100l0e x0 x1 x2 x3 x4 x5 x6 x7).2.2.2.1), .float .f32 ((r100l0e x0 x1 x2 x3 x4 x5 x6 x7).2.2.2.2.1)]))⟩, ⟨true, (some (.cells [.float .f32 x4, .float .f32 x5, .float .f32 x6, .float .f32 x7]))⟩], 2, [0]⟩), ((Nat.beq ((r100l0e x0 x1 x2 x3 x4 x5 x6 x7).1) 1), .exit 0, [.pointer (some ⟨0, 0, some 0⟩), .float .f32 ((r100l0e x0 x1 x2 x3 x4 x5 x6 x7).2.2.2.2.2.1), .float .f32 ((r100l0e x0 x1 x2 x3 x4 x5 x6 x7).2.2.2.2.2.2)], ⟨[⟨true, (some (.cells [.float .f32 x2, .float .f32 x3]))⟩, ⟨true, (some (.cells [.float .f32 x4, .float .f32 x5, .float .f32 x6, .float .f32 x7]))⟩], 2, [0]⟩)] else Q100l0d vals s
 | _, _ => Q100l0d vals s
set_option maxRecDepth 100000 in
set_option maxHeartbeats 4000000 in
theorem qok100l0e : SumKOk Try.prog (loopN Try.f100 0) 63 [4, 5, 6, 7, 8] [4, 6, 7] Q100l0e := by
  intro vals s x h1 h2 h3
  unfold Q100l0e at h3; split at h3
  · rename_i h; split at h3
    · rename_i hc; obtain ⟨rfl, rfl, rfl, rfl, rfl, rfl, rfl⟩ := hc; exact sum_step ok26 extOk mixed (lok100_4.inner (by kernel_rfl)) qok100l0d h1 h2 h (e100l0e _ _ _ _ _ _ _ _) rfl h3
    · exact qok100l0d _ _ _ h1 h2 h3
  · exact qok100l0d _ _ _ h1 h2 h3
noncomputable def L100_5 : LoopT := addL L100_4 6 ([4, 5, 6, 7, 8], []) (sumK 63 [4, 5, 6, 7, 8] [4, 6, 7] Q100l0e)
theorem lok100_5 : LfOkF Try.prog L100_5 Try.f100 := lfOkF_add lok100_4 qok100l0e (by kernel_rfl) (by kernel_rfl) (by kernel_rfl)

/-- spec.l05Mul -/
noncomputable def r100 (x0 x1 x2 x3 : Nat) : Nat × Nat × Nat :=
 let c4 := (r112 ((r100l0e (fmul .f32 x0 x2) (fmul .f32 x0 x2) 0 0 (fmul .f32 x0 x2) (fmul .f32 x0 x3) (fmul .f32 x1 x2) (fmul .f32 x1 x3)).2.2.2.2.2.1))
 let c5 := (r113 ((r100l0e (fmul .f32 x0 x2) (fmul .f32 x0 x2) 0 0 (fmul .f32 x0 x2) (fmul .f32 x0 x3) (fmul .f32 x1 x2) (fmul .f32 x1 x3)).2.2.2.2.2.2))
 cond (Nat.beq ((r100l0e (fmul .f32 x0 x2) (fmul .f32 x0 x2) 0 0 (fmul .f32 x0 x2) (fmul .f32 x0 x3) (fmul .f32 x1 x2) (fmul .f32 x1 x3)).1) 0)
  (0, ((r100l0e (fmul .f32 x0 x2) (fmul .f32 x0 x2) 0 0 (fmul .f32 x0 x2) (fmul .f32 x0 x3) (fmul .f32 x1 x2) (fmul .f32 x1 x3)).2.2.2.1), ((r100l0e (fmul .f32 x0 x2) (fmul .f32 x0 x2) 0 0 (fmul .f32 x0 x2) (fmul .f32 x0 x3) (fmul .f32 x1 x2) (fmul .f32 x1 x3)).2.2.2.2.1))
  (cond (Nat.beq ((r100l0e (fmul .f32 x0 x2) (fmul .f32 x0 x2) 0 0 (fmul .f32 x0 x2) (fmul .f32 x0 x3) (fmul .f32 x1 x2) (fmul .f32 x1 x3)).1) 1)
   (0, c4, c5)
   (1, 0, 0))
noncomputable def a100 (x0 x1 x2 x3 : Nat) (p : Nat × Nat × Nat) : Res := firstT [((Nat.beq (p.1) 0), .agg #[.float .f32 (p.2.1), .float .f32 (p.2.2)], st0)]
noncomputable def w100 (x0 x1 x2 x3 : Nat) : Res :=
 let c4 := (r112 ((r100l0e (fmul .f32 x0 x2) (fmul .f32 x0 x2) 0 0 (fmul .f32 x0 x2) (fmul .f32 x0 x3) (fmul .f32 x1 x2) (fmul .f32 x1 x3)).2.2.2.2.2.1))
 let c5 := (r113 ((r100l0e (fmul .f32 x0 x2) (fmul .f32 x0 x2) 0 0 (fmul .f32 x0 x2) (fmul .f32 x0 x3) (fmul .f32 x1 x2) (fmul .f32 x1 x3)).2.2.2.2.2.2))
 (cond (Nat.beq ((r100l0e (fmul .f32 x0 x2) (fmul .f32 x0 x2) 0 0 (fmul .f32 x0 x2) (fmul .f32 x0 x3) (fmul .f32 x1 x2) (fmul .f32 x1 x3)).1) 0)
 (a100 x0 x1 x2 x3 (0, ((r100l0e (fmul .f32 x0 x2) (fmul .f32 x0 x2) 0 0 (fmul .f32 x0 x2) (fmul .f32 x0 x3) (fmul .f32 x1 x2) (fmul .f32 x1 x3)).2.2.2.1), ((r100l0e (fmul .f32 x0 x2) (fmul .f32 x0 x2) 0 0 (fmul .f32 x0 x2) (fmul .f32 x0 x3) (fmul .f32 x1 x2) (fmul .f32 x1 x3)).2.2.2.2.1)))
 (cond (Nat.beq ((r100l0e (fmul .f32 x0 x2) (fmul .f32 x0 x2) 0 0 (fmul .f32 x0 x2) (fmul .f32 x0 x3) (fmul .f32 x1 x2) (fmul .f32 x1 x3)).1) 1)
  (a100 x0 x1 x2 x3 (0, c4, c5))
  none))
set_option maxRecDepth 100000 in
set_option maxHeartbeats 4000000 in
theorem e100 (x0 x1 x2 x3 : Nat) : evFn Try.prog ext T26 L100_5 200 Try.f100 [.agg #[.float .f32 x0, .float .f32 x1], .agg #[.float .f32 x2, .float .f32 x3]] st0 = firstT [((Nat.beq ((r100 x0 x1 x2 x3).1) 0), .agg #[.float .f32 ((r100 x0 x1 x2 x3).2.1), .float .f32 ((r100 x0 x1 x2 x3).2.2)], st0)] :=
 (show evFn Try.prog ext T26 L100_5 200 Try.f100 [.agg #[.float .f32 x0, .float .f32 x1], .agg #[.float .f32 x2, .float .f32 x3]] st0 = w100 x0 x1 x2 x3 from by kernel_rfl).trans
 (show w100 x0 x1 x2 x3 = a100 x0 x1 x2 x3 (r100 x0 x1 x2 x3) from by unfold w100 r100; exact (cond_app (a100 x0 x1 x2 x3) _ rfl (cond_app (a100 x0 x1 x2 x3) _ rfl rfl)))
noncomputable def s100 (args : List Value) (s : St) : List (Bool × Value × St) :=
 match args, s.h with
 | [.agg ⟨[.float .f32 x0, .float .f32 x1]⟩, .agg ⟨[.float .f32 x2, .float .f32 x3]⟩], [] => [((Nat.beq ((r100 x0 x1 x2 x3).1) 0), .agg #[.float .f32 ((r100 x0 x1 x2 x3).2.1), .float .f32 ((r100 x0 x1 x2 x3).2.2)], st0)]
 | _, _ => T26 100 args s
noncomputable def T27 : CallF := addF T26 100 s100
set_option maxRecDepth 100000 in
set_option maxHeartbeats 4000000 in
theorem ok27 : CfOk Try.prog T27 := by
  refine cfOk_add ok26 fun args s r s' h1 h2 h3 => ?_
  unfold s100 at h3; split at h3
  · rename_i h; exact callOk ok26 Try.func100 h1 h2 h lok100_5.body (e100 _ _ _ _) rfl h3
  · exact ok26 _ _ _ _ _ h1 h2 h3

/-- spec.l01Less -/
noncomputable def r93 (x0 x1 : Nat) : Nat :=
 cond (flt .f32 x1 x0)
  (x1)
  (x0)
noncomputable def a93 (x0 x1 : Nat) (p : Nat) : Res := firstT [(true, .float .f32 p, st0)]
noncomputable def w93 (x0 x1 : Nat) : Res :=
 (cond (flt .f32 x1 x0)
 (a93 x0 x1 (x1))
 (a93 x0 x1 (x0)))
set_option maxRecDepth 100000 in
set_option maxHeartbeats 4000000 in
theorem e93 (x0 x1 : Nat) : evFn Try.prog ext T27 noL 200 Try.f93 [.float .f32 x0, .float .f32 x1] st0 = firstT [(true, .float .f32 (r93 x0 x1), st0)] :=
 (show evFn Try.prog ext T27 noL 200 Try.f93 [.float .f32 x0, .float .f32 x1] st0 = w93 x0 x1 from by kernel_rfl).trans
 (show w93 x0 x1 = a93 x0 x1 (r93 x0 x1) from by unfold w93 r93; exact (cond_app (a93 x0 x1) _ rfl rfl))
noncomputable def s93 (args : List Value) (s : St) : List (Bool × Value × St) :=
 match args, s.h with
 | [.float .f32 x0, .float .f32 x1], [] => [(true, .float .f32 (r93 x0 x1), st0)]
 | _, _ => T27 93 args s
noncomputable def T28 : CallF := addF T27 93 s93
set_option maxRecDepth 100000 in
set_option maxHeartbeats 4000000 in
theorem ok28 : CfOk Try.prog T28 := by
  refine cfOk_add ok27 fun args s r s' h1 h2 h3 => ?_
  unfold s93 at h3; split at h3
  · rename_i h; exact callOk ok27 Try.func93 h1 h2 h (lfOkF_no _ _).body (e93 _ _) rfl h3
  · exact ok27 _ _ _ _ _ h1 h2 h3

/-- spec.l05Greater -/
noncomputable def r94 (x0 x1 : Nat) : Nat :=
 cond (fgt .f32 x1 x0)
  (x1)
  (x0)
noncomputable def a94 (x0 x1 : Nat) (p : Nat) : Res := firstT [(true, .float .f32 p, st0)]
noncomputable def w94 (x0 x1 : Nat) : Res :=
 (cond (fgt .f32 x1 x0)
 (a94 x0 x1 (x1))
 (a94 x0 x1 (x0)))
set_option maxRecDepth 100000 in
set_option maxHeartbeats 4000000 in
theorem e94 (x0 x1 : Nat) : evFn Try.prog ext T28 noL 200 Try.f94 [.float .f32 x0, .float .f32 x1] st0 = firstT [(true, .float .f32 (r94 x0 x1), st0)] :=
 (show evFn Try.prog ext T28 noL 200 Try.f94 [.float .f32 x0, .float .f32 x1] st0 = w94 x0 x1 from by kernel_rfl).trans
 (show w94 x0 x1 = a94 x0 x1 (r94 x0 x1) from by unfold w94 r94; exact (cond_app (a94 x0 x1) _ rfl rfl))
noncomputable def s94 (args : List Value) (s : St) : List (Bool × Value × St) :=
 match args, s.h with
 | [.float .f32 x0, .float .f32 x1], [] => [(true, .float .f32 (r94 x0 x1), st0)]
 | _, _ => T28 94 args s
noncomputable def T29 : CallF := addF T28 94 s94
set_option maxRecDepth 100000 in
set_option maxHeartbeats 4000000 in
theorem ok29 : CfOk Try.prog T29 := by
  refine cfOk_add ok28 fun args s r s' h1 h2 h3 => ?_
  unfold s94 at h3; split at h3
  · rename_i h; exact callOk ok28 Try.func94 h1 h2 h (lfOkF_no _ _).body (e94 _ _) rfl h3
  · exact ok28 _ _ _ _ _ h1 h2 h3

/-- spec.l05Less -/
noncomputable def r101 (x0 x1 x2 x3 : Nat) : Nat × Nat :=
 cond (flt .f32 x1 x2)
  (1065353216, 1065353216)
  (cond (fgt .f32 x0 x3 || feq .f32 x0 x3)
   (0, 0)
   (0, 1065353216))
noncomputable def a101 (x0 x1 x2 x3 : Nat) (p : Nat × Nat) : Res := firstT [(true, .agg #[.float .f32 (p.1), .float .f32 (p.2)], st0)]
noncomputable def w101 (x0 x1 x2 x3 : Nat) : Res :=
 (cond (flt .f32 x1 x2)
 (a101 x0 x1 x2 x3 (1065353216, 1065353216))
 (cond (fgt .f32 x0 x3 || feq .f32 x0 x3)
  (a101 x0 x1 x2 x3 (0, 0))
  (a101 x0 x1 x2 x3 (0, 1065353216))))
set_option maxRecDepth 100000 in
set_option maxHeartbeats 4000000 in
theorem e101 (x0 x1 x2 x3 : Nat) : evFn Try.prog ext T29 noL 200 Try.f101 [.agg #[.float .f32 x0, .float .f32 x1], .agg #[.float .f32 x2, .float .f32 x3]] st0 = firstT [(true, .agg #[.float .f32 ((r101 x0 x1 x2 x3).1), .float .f32 ((r101 x0 x1 x2 x3).2)], st0)] :=
 (show evFn Try.prog ext T29 noL 200 Try.f101 [.agg #[.float .f32 x0, .float .f32 x1], .agg #[.float .f32 x2, .float .f32 x3]] st0 = w101 x0 x1 x2 x3 from by kernel_rfl).trans
 (show w101 x0 x1 x2 x3 = a101 x0 x1 x2 x3 (r101 x0 x1 x2 x3) from by unfold w101 r101; exact (cond_app (a101 x0 x1 x2 x3) _ rfl (cond_app (a101 x0 x1 x2 x3) _ rfl rfl)))
noncomputable def s101 (args : List Value) (s : St) : List (Bool × Value × St) :=
 match args, s.h with
 | [.agg ⟨[.float .f32 x0, .float .f32 x1]⟩, .agg ⟨[.float .f32 x2, .float .f32 x3]⟩], [] => [(true, .agg #[.float .f32 ((r101 x0 x1 x2 x3).1), .float .f32 ((r101 x0 x1 x2 x3).2)], st0)]
 | _, _ => T29 101 args s
noncomputable def T30 : CallF := addF T29 101 s101
set_option maxRecDepth 100000 in
set_option maxHeartbeats 4000000 in
theorem ok30 : CfOk Try.prog T30 := by
  refine cfOk_add ok29 fun args s r s' h1 h2 h3 => ?_
  unfold s101 at h3; split at h3
  · rename_i h; exact callOk ok29 Try.func101 h1 h2 h (lfOkF_no _ _).body (e101 _ _ _ _) rfl h3
  · exact ok29 _ _ _ _ _ h1 h2 h3

/-- spec.l05Over -/
noncomputable def r87 (x0 : Int) (x1 x2 x3 x4 : Nat) : Nat × Nat × Nat :=
 cond ((x0 : Int) == 5)
  (cond (Nat.beq ((r98 x1 x2 x3 x4).1) 0)
   (0, ((r98 x1 x2 x3 x4).2.1), ((r98 x1 x2 x3 x4).2.2))
   (1, 0, 0))
  (cond ((x0 : Int) == 6)
   (cond (Nat.beq ((r99 x1 x2 x3 x4).1) 0)
    (0, ((r99 x1 x2 x3 x4).2.1), ((r99 x1 x2 x3 x4).2.2))
    (1, 0, 0))
   (cond ((x0 : Int) == 7)
    (cond (Nat.beq ((r100 x1 x2 x3 x4).1) 0)
     (0, ((r100 x1 x2 x3 x4).2.1), ((r100 x1 x2 x3 x4).2.2))
     (1, 0, 0))
    (cond ((x0 : Int) == 9)
     (0, (r93 x1 x3), (r93 x2 x4))
     (cond ((x0 : Int) == 10)
      (0, (r94 x1 x3), (r94 x2 x4))
      (0, ((r101 x1 x2 x3 x4).1), ((r101 x1 x2 x3 x4).2))))))
noncomputable def a87 (x0 : Int) (x1 x2 x3 x4 : Nat) (p : Nat × Nat × Nat) : Res := firstT [((Nat.beq (p.1) 0), .agg #[.float .f32 (p.2.1), .float .f32 (p.2.2)], st0)]
noncomputable def w87 (x0 : Int) (x1 x2 x3 x4 : Nat) : Res :=
 (cond ((x0 : Int) == 5)
 (cond (Nat.beq ((r98 x1 x2 x3 x4).1) 0)
  (a87 x0 x1 x2 x3 x4 (0, ((r98 x1 x2 x3 x4).2.1), ((r98 x1 x2 x3 x4).2.2)))
  none)
 (cond ((x0 : Int) == 6)
  (cond (Nat.beq ((r99 x1 x2 x3 x4).1) 0)
   (a87 x0 x1 x2 x3 x4 (0, ((r99 x1 x2 x3 x4).2.1), ((r99 x1 x2 x3 x4).2.2)))
   none)
  (cond ((x0 : Int) == 7)
   (cond (Nat.beq ((r100 x1 x2 x3 x4).1) 0)
    (a87 x0 x1 x2 x3 x4 (0, ((r100 x1 x2 x3 x4).2.1), ((r100 x1 x2 x3 x4).2.2)))
    none)
   (cond ((x0 : Int) == 9)
    (a87 x0 x1 x2 x3 x4 (0, (r93 x1 x3), (r93 x2 x4)))
    (cond ((x0 : Int) == 10)
     (a87 x0 x1 x2 x3 x4 (0, (r94 x1 x3), (r94 x2 x4)))
     (a87 x0 x1 x2 x3 x4 (0, ((r101 x1 x2 x3 x4).1), ((r101 x1 x2 x3 x4).2))))))))
set_option maxRecDepth 100000 in
set_option maxHeartbeats 4000000 in
theorem e87 (x0 : Int) (x1 x2 x3 x4 : Nat) : evFn Try.prog ext T30 noL 200 Try.f87 [.int .i8 x0, .agg #[.float .f32 x1, .float .f32 x2], .agg #[.float .f32 x3, .float .f32 x4]] st0 = firstT [((Nat.beq ((r87 x0 x1 x2 x3 x4).1) 0), .agg #[.float .f32 ((r87 x0 x1 x2 x3 x4).2.1), .float .f32 ((r87 x0 x1 x2 x3 x4).2.2)], st0)] :=
 (show evFn Try.prog ext T30 noL 200 Try.f87 [.int .i8 x0, .agg #[.float .f32 x1, .float .f32 x2], .agg #[.float .f32 x3, .float .f32 x4]] st0 = w87 x0 x1 x2 x3 x4 from by kernel_rfl).trans
 (show w87 x0 x1 x2 x3 x4 = a87 x0 x1 x2 x3 x4 (r87 x0 x1 x2 x3 x4) from by unfold w87 r87; exact (cond_app (a87 x0 x1 x2 x3 x4) _ (cond_app (a87 x0 x1 x2 x3 x4) _ rfl rfl) (cond_app (a87 x0 x1 x2 x3 x4) _ (cond_app (a87 x0 x1 x2 x3 x4) _ rfl rfl) (cond_app (a87 x0 x1 x2 x3 x4) _ (cond_app (a87 x0 x1 x2 x3 x4) _ rfl rfl) (cond_app (a87 x0 x1 x2 x3 x4) _ rfl (cond_app (a87 x0 x1 x2 x3 x4) _ rfl rfl))))))
noncomputable def s87 (args : List Value) (s : St) : List (Bool × Value × St) :=
 match args, s.h with
 | [.int .i8 x0, .agg ⟨[.float .f32 x1, .float .f32 x2]⟩, .agg ⟨[.float .f32 x3, .float .f32 x4]⟩], [] => [((Nat.beq ((r87 x0 x1 x2 x3 x4).1) 0), .agg #[.float .f32 ((r87 x0 x1 x2 x3 x4).2.1), .float .f32 ((r87 x0 x1 x2 x3 x4).2.2)], st0)]
 | _, _ => T30 87 args s
noncomputable def T31 : CallF := addF T30 87 s87
set_option maxRecDepth 100000 in
set_option maxHeartbeats 4000000 in
theorem ok31 : CfOk Try.prog T31 := by
  refine cfOk_add ok30 fun args s r s' h1 h2 h3 => ?_
  unfold s87 at h3; split at h3
  · rename_i h; exact callOk ok30 Try.func87 h1 h2 h (lfOkF_no _ _).body (e87 _ _ _ _ _) rfl h3
  · exact ok30 _ _ _ _ _ h1 h2 h3

/-- spec.l05Join -/
noncomputable def r97 (x0 x1 x2 x3 : Nat) : Nat × Nat :=
 ((r93 x0 x2), (r94 x1 x3))
noncomputable def a97 (x0 x1 x2 x3 : Nat) (p : Nat × Nat) : Res := firstT [(true, .agg #[.float .f32 (p.1), .float .f32 (p.2)], st0)]
noncomputable def w97 (x0 x1 x2 x3 : Nat) : Res :=
 (a97 x0 x1 x2 x3 ((r93 x0 x2), (r94 x1 x3)))
set_option maxRecDepth 100000 in
set_option maxHeartbeats 4000000 in
theorem e97 (x0 x1 x2 x3 : Nat) : evFn Try.prog ext T31 noL 200 Try.f97 [.agg #[.float .f32 x0, .float .f32 x1], .agg #[.float .f32 x2, .float .f32 x3]] st0 = firstT [(true, .agg #[.float .f32 ((r97 x0 x1 x2 x3).1), .float .f32 ((r97 x0 x1 x2 x3).2)], st0)] :=
 (show evFn Try.prog ext T31 noL 200 Try.f97 [.agg #[.float .f32 x0, .float .f32 x1], .agg #[.float .f32 x2, .float .f32 x3]] st0 = w97 x0 x1 x2 x3 from by kernel_rfl).trans
 (show w97 x0 x1 x2 x3 = a97 x0 x1 x2 x3 (r97 x0 x1 x2 x3) from by unfold w97 r97; exact rfl)
noncomputable def s97 (args : List Value) (s : St) : List (Bool × Value × St) :=
 match args, s.h with
 | [.agg ⟨[.float .f32 x0, .float .f32 x1]⟩, .agg ⟨[.float .f32 x2, .float .f32 x3]⟩], [] => [(true, .agg #[.float .f32 ((r97 x0 x1 x2 x3).1), .float .f32 ((r97 x0 x1 x2 x3).2)], st0)]
 | _, _ => T31 97 args s
noncomputable def T32 : CallF := addF T31 97 s97
set_option maxRecDepth 100000 in
set_option maxHeartbeats 4000000 in
theorem ok32 : CfOk Try.prog T32 := by
  refine cfOk_add ok31 fun args s r s' h1 h2 h3 => ?_
  unfold s97 at h3; split at h3
  · rename_i h; exact callOk ok31 Try.func97 h1 h2 h (lfOkF_no _ _).body (e97 _ _ _ _) rfl h3
  · exact ok31 _ _ _ _ _ h1 h2 h3

/-- spec.l05Chosen -/
noncomputable def r86 (x0 x1 x2 x3 x4 x5 : Nat) : Nat × Nat :=
 cond (fgt .f32 x0 0)
  (x2, x3)
  (cond (flt .f32 x1 0 || feq .f32 x1 0)
   (x4, x5)
   (((r97 x2 x3 x4 x5).1), ((r97 x2 x3 x4 x5).2)))
noncomputable def a86 (x0 x1 x2 x3 x4 x5 : Nat) (p : Nat × Nat) : Res := firstT [(true, .agg #[.float .f32 (p.1), .float .f32 (p.2)], st0)]
noncomputable def w86 (x0 x1 x2 x3 x4 x5 : Nat) : Res :=
 (cond (fgt .f32 x0 0)
 (a86 x0 x1 x2 x3 x4 x5 (x2, x3))
 (cond (flt .f32 x1 0 || feq .f32 x1 0)
  (a86 x0 x1 x2 x3 x4 x5 (x4, x5))
  (a86 x0 x1 x2 x3 x4 x5 (((r97 x2 x3 x4 x5).1), ((r97 x2 x3 x4 x5).2)))))
set_option maxRecDepth 100000 in
set_option maxHeartbeats 4000000 in
theorem e86 (x0 x1 x2 x3 x4 x5 : Nat) : evFn Try.prog ext T32 noL 200 Try.f86 [.agg #[.float .f32 x0, .float .f32 x1], .agg #[.float .f32 x2, .float .f32 x3], .agg #[.float .f32 x4, .float .f32 x5]] st0 = firstT [(true, .agg #[.float .f32 ((r86 x0 x1 x2 x3 x4 x5).1), .float .f32 ((r86 x0 x1 x2 x3 x4 x5).2)], st0)] :=
 (show evFn Try.prog ext T32 noL 200 Try.f86 [.agg #[.float .f32 x0, .float .f32 x1], .agg #[.float .f32 x2, .float .f32 x3], .agg #[.float .f32 x4, .float .f32 x5]] st0 = w86 x0 x1 x2 x3 x4 x5 from by kernel_rfl).trans
 (show w86 x0 x1 x2 x3 x4 x5 = a86 x0 x1 x2 x3 x4 x5 (r86 x0 x1 x2 x3 x4 x5) from by unfold w86 r86; exact (cond_app (a86 x0 x1 x2 x3 x4 x5) _ rfl (cond_app (a86 x0 x1 x2 x3 x4 x5) _ rfl rfl)))
noncomputable def s86 (args : List Value) (s : St) : List (Bool × Value × St) :=
 match args, s.h with
 | [.agg ⟨[.float .f32 x0, .float .f32 x1]⟩, .agg ⟨[.float .f32 x2, .float .f32 x3]⟩, .agg ⟨[.float .f32 x4, .float .f32 x5]⟩], [] => [(true, .agg #[.float .f32 ((r86 x0 x1 x2 x3 x4 x5).1), .float .f32 ((r86 x0 x1 x2 x3 x4 x5).2)], st0)]
 | _, _ => T32 86 args s
noncomputable def T33 : CallF := addF T32 86 s86
set_option maxRecDepth 100000 in
set_option maxHeartbeats 4000000 in
theorem ok33 : CfOk Try.prog T33 := by
  refine cfOk_add ok32 fun args s r s' h1 h2 h3 => ?_
  unfold s86 at h3; split at h3
  · rename_i h; exact callOk ok32 Try.func86 h1 h2 h (lfOkF_no _ _).body (e86 _ _ _ _ _ _) rfl h3
  · exact ok32 _ _ _ _ _ h1 h2 h3

/-- spec.l05Prove, loop 0: one round -/
noncomputable def b62l0 (ih : Int → Nat → Nat → Nat → Nat → Nat → Nat → Nat → Nat → List (List Int) → List (List Int) → List ByteArray → List (List Int) → (Nat × List (List Int) × List (List Int))) (x0 : Int) (x1 x2 x3 x4 x5 x6 x7 x8 : Nat) (x9 x10 : List (List Int)) (x11 : List ByteArray) (x12 : List (List Int)) : Nat × List (List Int) × List (List Int) :=
 let c31 := (r86 (Int.toNat ((x10.getD (Int.toNat (IntKind.i64.wrap (((x10.length : Nat) : Int) - 3))) []).getD 0 0)) (Int.toNat ((x10.getD (Int.toNat (IntKind.i64.wrap (((x10.length : Nat) : Int) - 3))) []).getD 1 0)) (Int.toNat ((x10.getD (Int.toNat (IntKind.i64.wrap (((x10.length : Nat) : Int) - 2))) []).getD 0 0)) (Int.toNat ((x10.getD (Int.toNat (IntKind.i64.wrap (((x10.length : Nat) : Int) - 2))) []).getD 1 0)) (Int.toNat ((x10.getD (Int.toNat (IntKind.i64.wrap (((x10.length : Nat) : Int) - 1))) []).getD 0 0)) (Int.toNat ((x10.getD (Int.toNat (IntKind.i64.wrap (((x10.length : Nat) : Int) - 1))) []).getD 1 0)))
 let c32 := (r87 ((x12.getD (Int.toNat x0) []).getD 0 0) (Int.toNat ((x10.getD (Int.toNat (IntKind.i64.wrap (((x10.length : Nat) : Int) - 2))) []).getD 0 0)) (Int.toNat ((x10.getD (Int.toNat (IntKind.i64.wrap (((x10.length : Nat) : Int) - 2))) []).getD 1 0)) (Int.toNat ((x10.getD (Int.toNat (IntKind.i64.wrap (((x10.length : Nat) : Int) - 1))) []).getD 0 0)) (Int.toNat ((x10.getD (Int.toNat (IntKind.i64.wrap (((x10.length : Nat) : Int) - 1))) []).getD 1 0)))
 cond (decide ((x0 : Int) < ((x12.length : Nat) : Int)))
  (cond ((decide ((0 : Int) ≤ x0)) && (Nat.blt (Int.toNat x0) x12.length))
   (cond ((((x12.getD (Int.toNat x0) []).getD 0 0) : Int) == 1)
    (cond (Nat.ble ((x10.length + 1) * 9) 140737488355328)
     (cond (Nat.beq ((ih (IntKind.i64.wrap (x0 + 1)) x1 x2 x3 x4 x5 x6 x7 x8 x9 (((x10.drop 0).take x10.length) ++ ([[(((Int.toNat ((x12.getD (Int.toNat x0) []).getD 2 0)) : Nat) : Int), (((Int.toNat ((x12.getD (Int.toNat x0) []).getD 2 0)) : Nat) : Int)]] : List (List Int))) x11 x12).1) 0)
      (0, [], [])
      (cond (Nat.beq ((ih (IntKind.i64.wrap (x0 + 1)) x1 x2 x3 x4 x5 x6 x7 x8 x9 (((x10.drop 0).take x10.length) ++ ([[(((Int.toNat ((x12.getD (Int.toNat x0) []).getD 2 0)) : Nat) : Int), (((Int.toNat ((x12.getD (Int.toNat x0) []).getD 2 0)) : Nat) : Int)]] : List (List Int))) x11 x12).1) 1)
       (1, ((ih (IntKind.i64.wrap (x0 + 1)) x1 x2 x3 x4 x5 x6 x7 x8 x9 (((x10.drop 0).take x10.length) ++ ([[(((Int.toNat ((x12.getD (Int.toNat x0) []).getD 2 0)) : Nat) : Int), (((Int.toNat ((x12.getD (Int.toNat x0) []).getD 2 0)) : Nat) : Int)]] : List (List Int))) x11 x12).2.1), [])
       (cond (Nat.beq ((ih (IntKind.i64.wrap (x0 + 1)) x1 x2 x3 x4 x5 x6 x7 x8 x9 (((x10.drop 0).take x10.length) ++ ([[(((Int.toNat ((x12.getD (Int.toNat x0) []).getD 2 0)) : Nat) : Int), (((Int.toNat ((x12.getD (Int.toNat x0) []).getD 2 0)) : Nat) : Int)]] : List (List Int))) x11 x12).1) 2)
        (0, [], [])
        (3, [], []))))
     (3, [], []))
    (cond ((((x12.getD (Int.toNat x0) []).getD 0 0) : Int) == 2)
     (cond ((decide ((0 : Int) ≤ ((x12.getD (Int.toNat x0) []).getD 1 0))) && (Nat.blt (Int.toNat ((x12.getD (Int.toNat x0) []).getD 1 0)) 4))
      (cond (Nat.beq (0 + (Int.toNat ((x12.getD (Int.toNat x0) []).getD 1 0)) * 2) 0)
       (cond (Nat.ble ((x10.length + 1) * 9) 140737488355328)
        (cond (Nat.beq ((ih (IntKind.i64.wrap (x0 + 1)) x1 x2 x3 x4 x5 x6 x7 x8 x9 (((x10.drop 0).take x10.length) ++ ([[((x1 : Nat) : Int), ((x2 : Nat) : Int)]] : List (List Int))) x11 x12).1) 0)
         (0, [], [])
         (cond (Nat.beq ((ih (IntKind.i64.wrap (x0 + 1)) x1 x2 x3 x4 x5 x6 x7 x8 x9 (((x10.drop 0).take x10.length) ++ ([[((x1 : Nat) : Int), ((x2 : Nat) : Int)]] : List (List Int))) x11 x12).1) 1)
          (1, ((ih (IntKind.i64.wrap (x0 + 1)) x1 x2 x3 x4 x5 x6 x7 x8 x9 (((x10.drop 0).take x10.length) ++ ([[((x1 : Nat) : Int), ((x2 : Nat) : Int)]] : List (List Int))) x11 x12).2.1), [])
          (cond (Nat.beq ((ih (IntKind.i64.wrap (x0 + 1)) x1 x2 x3 x4 x5 x6 x7 x8 x9 (((x10.drop 0).take x10.length) ++ ([[((x1 : Nat) : Int), ((x2 : Nat) : Int)]] : List (List Int))) x11 x12).1) 2)
           (0, [], [])
           (3, [], []))))
        (3, [], []))
       (cond (Nat.beq (0 + (Int.toNat ((x12.getD (Int.toNat x0) []).getD 1 0)) * 2) 1)
        (cond (Nat.ble ((x10.length + 1) * 9) 140737488355328)
         (cond (Nat.beq ((ih (IntKind.i64.wrap (x0 + 1)) x1 x2 x3 x4 x5 x6 x7 x8 x9 (((x10.drop 0).take x10.length) ++ ([[((x2 : Nat) : Int), ((x3 : Nat) : Int)]] : List (List Int))) x11 x12).1) 0)
          (0, [], [])
          (cond (Nat.beq ((ih (IntKind.i64.wrap (x0 + 1)) x1 x2 x3 x4 x5 x6 x7 x8 x9 (((x10.drop 0).take x10.length) ++ ([[((x2 : Nat) : Int), ((x3 : Nat) : Int)]] : List (List Int))) x11 x12).1) 1)
           (1, ((ih (IntKind.i64.wrap (x0 + 1)) x1 x2 x3 x4 x5 x6 x7 x8 x9 (((x10.drop 0).take x10.length) ++ ([[((x2 : Nat) : Int), ((x3 : Nat) : Int)]] : List (List Int))) x11 x12).2.1), [])
           (cond (Nat.beq ((ih (IntKind.i64.wrap (x0 + 1)) x1 x2 x3 x4 x5 x6 x7 x8 x9 (((x10.drop 0).take x10.length) ++ ([[((x2 : Nat) : Int), ((x3 : Nat) : Int)]] : List (List Int))) x11 x12).1) 2)
            (0, [], [])
            (3, [], []))))
         (3, [], []))
        (cond (Nat.beq (0 + (Int.toNat ((x12.getD (Int.toNat x0) []).getD 1 0)) * 2) 2)
         (cond (Nat.ble ((x10.length + 1) * 9) 140737488355328)
          (cond (Nat.beq ((ih (IntKind.i64.wrap (x0 + 1)) x1 x2 x3 x4 x5 x6 x7 x8 x9 (((x10.drop 0).take x10.length) ++ ([[((x3 : Nat) : Int), ((x4 : Nat) : Int)]] : List (List Int))) x11 x12).1) 0)
           (0, [], [])
           (cond (Nat.beq ((ih (IntKind.i64.wrap (x0 + 1)) x1 x2 x3 x4 x5 x6 x7 x8 x9 (((x10.drop 0).take x10.length) ++ ([[((x3 : Nat) : Int), ((x4 : Nat) : Int)]] : List (List Int))) x11 x12).1) 1)
            (1, ((ih (IntKind.i64.wrap (x0 + 1)) x1 x2 x3 x4 x5 x6 x7 x8 x9 (((x10.drop 0).take x10.length) ++ ([[((x3 : Nat) : Int), ((x4 : Nat) : Int)]] : List (List Int))) x11 x12).2.1), [])
            (cond (Nat.beq ((ih (IntKind.i64.wrap (x0 + 1)) x1 x2 x3 x4 x5 x6 x7 x8 x9 (((x10.drop 0).take x10.length) ++ ([[((x3 : Nat) : Int), ((x4 : Nat) : Int)]] : List (List Int))) x11 x12).1) 2)
             (0, [], [])
             (3, [], []))))
          (3, [], []))
         (cond (Nat.beq (0 + (Int.toNat ((x12.getD (Int.toNat x0) []).getD 1 0)) * 2) 3)
          (cond (Nat.ble ((x10.length + 1) * 9) 140737488355328)
           (cond (Nat.beq ((ih (IntKind.i64.wrap (x0 + 1)) x1 x2 x3 x4 x5 x6 x7 x8 x9 (((x10.drop 0).take x10.length) ++ ([[((x4 : Nat) : Int), ((x5 : Nat) : Int)]] : List (List Int))) x11 x12).1) 0)
            (0, [], [])
            (cond (Nat.beq ((ih (IntKind.i64.wrap (x0 + 1)) x1 x2 x3 x4 x5 x6 x7 x8 x9 (((x10.drop 0).take x10.length) ++ ([[((x4 : Nat) : Int), ((x5 : Nat) : Int)]] : List (List Int))) x11 x12).1) 1)
             (1, ((ih (IntKind.i64.wrap (x0 + 1)) x1 x2 x3 x4 x5 x6 x7 x8 x9 (((x10.drop 0).take x10.length) ++ ([[((x4 : Nat) : Int), ((x5 : Nat) : Int)]] : List (List Int))) x11 x12).2.1), [])
             (cond (Nat.beq ((ih (IntKind.i64.wrap (x0 + 1)) x1 x2 x3 x4 x5 x6 x7 x8 x9 (((x10.drop 0).take x10.length) ++ ([[((x4 : Nat) : Int), ((x5 : Nat) : Int)]] : List (List Int))) x11 x12).1) 2)
              (0, [], [])
              (3, [], []))))
           (3, [], []))
          (cond (Nat.beq (0 + (Int.toNat ((x12.getD (Int.toNat x0) []).getD 1 0)) * 2) 4)
           (cond (Nat.ble ((x10.length + 1) * 9) 140737488355328)
            (cond (Nat.beq ((ih (IntKind.i64.wrap (x0 + 1)) x1 x2 x3 x4 x5 x6 x7 x8 x9 (((x10.drop 0).take x10.length) ++ ([[((x5 : Nat) : Int), ((x6 : Nat) : Int)]] : List (List Int))) x11 x12).1) 0)
             (0, [], [])
             (cond (Nat.beq ((ih (IntKind.i64.wrap (x0 + 1)) x1 x2 x3 x4 x5 x6 x7 x8 x9 (((x10.drop 0).take x10.length) ++ ([[((x5 : Nat) : Int), ((x6 : Nat) : Int)]] : List (List Int))) x11 x12).1) 1)
              (1, ((ih (IntKind.i64.wrap (x0 + 1)) x1 x2 x3 x4 x5 x6 x7 x8 x9 (((x10.drop 0).take x10.length) ++ ([[((x5 : Nat) : Int), ((x6 : Nat) : Int)]] : List (List Int))) x11 x12).2.1), [])
              (cond (Nat.beq ((ih (IntKind.i64.wrap (x0 + 1)) x1 x2 x3 x4 x5 x6 x7 x8 x9 (((x10.drop 0).take x10.length) ++ ([[((x5 : Nat) : Int), ((x6 : Nat) : Int)]] : List (List Int))) x11 x12).1) 2)
               (0, [], [])
               (3, [], []))))
            (3, [], []))
           (cond (Nat.beq (0 + (Int.toNat ((x12.getD (Int.toNat x0) []).getD 1 0)) * 2) 5)
            (cond (Nat.ble ((x10.length + 1) * 9) 140737488355328)
             (cond (Nat.beq ((ih (IntKind.i64.wrap (x0 + 1)) x1 x2 x3 x4 x5 x6 x7 x8 x9 (((x10.drop 0).take x10.length) ++ ([[((x6 : Nat) : Int), ((x7 : Nat) : Int)]] : List (List Int))) x11 x12).1) 0)
              (0, [], [])
              (cond (Nat.beq ((ih (IntKind.i64.wrap (x0 + 1)) x1 x2 x3 x4 x5 x6 x7 x8 x9 (((x10.drop 0).take x10.length) ++ ([[((x6 : Nat) : Int), ((x7 : Nat) : Int)]] : List (List Int))) x11 x12).1) 1)
               (1, ((ih (IntKind.i64.wrap (x0 + 1)) x1 x2 x3 x4 x5 x6 x7 x8 x9 (((x10.drop 0).take x10.length) ++ ([[((x6 : Nat) : Int), ((x7 : Nat) : Int)]] : List (List Int))) x11 x12).2.1), [])
               (cond (Nat.beq ((ih (IntKind.i64.wrap (x0 + 1)) x1 x2 x3 x4 x5 x6 x7 x8 x9 (((x10.drop 0).take x10.length) ++ ([[((x6 : Nat) : Int), ((x7 : Nat) : Int)]] : List (List Int))) x11 x12).1) 2)
                (0, [], [])
                (3, [], []))))
             (3, [], []))
            (cond (Nat.beq (0 + (Int.toNat ((x12.getD (Int.toNat x0) []).getD 1 0)) * 2) 6)
             (cond (Nat.ble ((x10.length + 1) * 9) 140737488355328)
              (cond (Nat.beq ((ih (IntKind.i64.wrap (x0 + 1)) x1 x2 x3 x4 x5 x6 x7 x8 x9 (((x10.drop 0).take x10.length) ++ ([[((x7 : Nat) : Int), ((x8 : Nat) : Int)]] : List (List Int))) x11 x12).1) 0)
               (0, [], [])
               (cond (Nat.beq ((ih (IntKind.i64.wrap (x0 + 1)) x1 x2 x3 x4 x5 x6 x7 x8 x9 (((x10.drop 0).take x10.length) ++ ([[((x7 : Nat) : Int), ((x8 : Nat) : Int)]] : List (List Int))) x11 x12).1) 1)
                (1, ((ih (IntKind.i64.wrap (x0 + 1)) x1 x2 x3 x4 x5 x6 x7 x8 x9 (((x10.drop 0).take x10.length) ++ ([[((x7 : Nat) : Int), ((x8 : Nat) : Int)]] : List (List Int))) x11 x12).2.1), [])
                (cond (Nat.beq ((ih (IntKind.i64.wrap (x0 + 1)) x1 x2 x3 x4 x5 x6 x7 x8 x9 (((x10.drop 0).take x10.length) ++ ([[((x7 : Nat) : Int), ((x8 : Nat) : Int)]] : List (List Int))) x11 x12).1) 2)
                 (0, [], [])
                 (3, [], []))))
              (3, [], []))
             (3, [], []))))))))
      (3, [], []))
     (cond ((((x12.getD (Int.toNat x0) []).getD 0 0) : Int) == 3)
      (cond ((decide ((0 : Int) ≤ ((x12.getD (Int.toNat x0) []).getD 1 0))) && (Nat.blt (Int.toNat ((x12.getD (Int.toNat x0) []).getD 1 0)) x9.length))
       (cond (Nat.ble ((x10.length + 1) * 9) 140737488355328)
        (cond (Nat.beq ((ih (IntKind.i64.wrap (x0 + 1)) x1 x2 x3 x4 x5 x6 x7 x8 x9 (((x10.drop 0).take x10.length) ++ ([[(((Int.toNat ((x9.getD (Int.toNat ((x12.getD (Int.toNat x0) []).getD 1 0)) []).getD 0 0)) : Nat) : Int), (((Int.toNat ((x9.getD (Int.toNat ((x12.getD (Int.toNat x0) []).getD 1 0)) []).getD 1 0)) : Nat) : Int)]] : List (List Int))) x11 x12).1) 0)
         (0, [], [])
         (cond (Nat.beq ((ih (IntKind.i64.wrap (x0 + 1)) x1 x2 x3 x4 x5 x6 x7 x8 x9 (((x10.drop 0).take x10.length) ++ ([[(((Int.toNat ((x9.getD (Int.toNat ((x12.getD (Int.toNat x0) []).getD 1 0)) []).getD 0 0)) : Nat) : Int), (((Int.toNat ((x9.getD (Int.toNat ((x12.getD (Int.toNat x0) []).getD 1 0)) []).getD 1 0)) : Nat) : Int)]] : List (List Int))) x11 x12).1) 1)
          (1, ((ih (IntKind.i64.wrap (x0 + 1)) x1 x2 x3 x4 x5 x6 x7 x8 x9 (((x10.drop 0).take x10.length) ++ ([[(((Int.toNat ((x9.getD (Int.toNat ((x12.getD (Int.toNat x0) []).getD 1 0)) []).getD 0 0)) : Nat) : Int), (((Int.toNat ((x9.getD (Int.toNat ((x12.getD (Int.toNat x0) []).getD 1 0)) []).getD 1 0)) : Nat) : Int)]] : List (List Int))) x11 x12).2.1), [])
          (cond (Nat.beq ((ih (IntKind.i64.wrap (x0 + 1)) x1 x2 x3 x4 x5 x6 x7 x8 x9 (((x10.drop 0).take x10.length) ++ ([[(((Int.toNat ((x9.getD (Int.toNat ((x12.getD (Int.toNat x0) []).getD 1 0)) []).getD 0 0)) : Nat) : Int), (((Int.toNat ((x9.getD (Int.toNat ((x12.getD (Int.toNat x0) []).getD 1 0)) []).getD 1 0)) : Nat) : Int)]] : List (List Int))) x11 x12).1) 2)
           (0, [], [])
           (3, [], []))))
        (3, [], []))
       (3, [], []))
      (cond ((((x12.getD (Int.toNat x0) []).getD 0 0) : Int) == 4)
       (cond ((decide ((0 : Int) ≤ (IntKind.i64.wrap (((x10.length : Nat) : Int) - 1)))) && (Nat.blt (Int.toNat (IntKind.i64.wrap (((x10.length : Nat) : Int) - 1))) x10.length))
        (cond (Nat.ble ((x9.length + 1) * 9) 140737488355328)
         (cond ((Nat.blt 0 x10.length) && (((decide ((0 : Int) ≤ (IntKind.i64.wrap (((x10.length : Nat) : Int) - 1)))) && (Nat.ble 0 (Int.toNat (IntKind.i64.wrap (((x10.length : Nat) : Int) - 1))))) && (Nat.ble (Int.toNat (IntKind.i64.wrap (((x10.length : Nat) : Int) - 1))) x10.length)))
          (cond (Nat.beq ((ih (IntKind.i64.wrap (x0 + 1)) x1 x2 x3 x4 x5 x6 x7 x8 (((x9.drop 0).take x9.length) ++ ([[(((Int.toNat ((x10.getD (Int.toNat (IntKind.i64.wrap (((x10.length : Nat) : Int) - 1))) []).getD 0 0)) : Nat) : Int), (((Int.toNat ((x10.getD (Int.toNat (IntKind.i64.wrap (((x10.length : Nat) : Int) - 1))) []).getD 1 0)) : Nat) : Int)]] : List (List Int))) ((x10.drop 0).take (Int.toNat (IntKind.i64.wrap (((x10.length : Nat) : Int) - 1)))) x11 x12).1) 0)
           (1, (((x9.drop 0).take x9.length) ++ ([[(((Int.toNat ((x10.getD (Int.toNat (IntKind.i64.wrap (((x10.length : Nat) : Int) - 1))) []).getD 0 0)) : Nat) : Int), (((Int.toNat ((x10.getD (Int.toNat (IntKind.i64.wrap (((x10.length : Nat) : Int) - 1))) []).getD 1 0)) : Nat) : Int)]] : List (List Int))), [])
           (cond (Nat.beq ((ih (IntKind.i64.wrap (x0 + 1)) x1 x2 x3 x4 x5 x6 x7 x8 (((x9.drop 0).take x9.length) ++ ([[(((Int.toNat ((x10.getD (Int.toNat (IntKind.i64.wrap (((x10.length : Nat) : Int) - 1))) []).getD 0 0)) : Nat) : Int), (((Int.toNat ((x10.getD (Int.toNat (IntKind.i64.wrap (((x10.length : Nat) : Int) - 1))) []).getD 1 0)) : Nat) : Int)]] : List (List Int))) ((x10.drop 0).take (Int.toNat (IntKind.i64.wrap (((x10.length : Nat) : Int) - 1)))) x11 x12).1) 1)
            (1, ((ih (IntKind.i64.wrap (x0 + 1)) x1 x2 x3 x4 x5 x6 x7 x8 (((x9.drop 0).take x9.length) ++ ([[(((Int.toNat ((x10.getD (Int.toNat (IntKind.i64.wrap (((x10.length : Nat) : Int) - 1))) []).getD 0 0)) : Nat) : Int), (((Int.toNat ((x10.getD (Int.toNat (IntKind.i64.wrap (((x10.length : Nat) : Int) - 1))) []).getD 1 0)) : Nat) : Int)]] : List (List Int))) ((x10.drop 0).take (Int.toNat (IntKind.i64.wrap (((x10.length : Nat) : Int) - 1)))) x11 x12).2.1), [])
            (cond (Nat.beq ((ih (IntKind.i64.wrap (x0 + 1)) x1 x2 x3 x4 x5 x6 x7 x8 (((x9.drop 0).take x9.length) ++ ([[(((Int.toNat ((x10.getD (Int.toNat (IntKind.i64.wrap (((x10.length : Nat) : Int) - 1))) []).getD 0 0)) : Nat) : Int), (((Int.toNat ((x10.getD (Int.toNat (IntKind.i64.wrap (((x10.length : Nat) : Int) - 1))) []).getD 1 0)) : Nat) : Int)]] : List (List Int))) ((x10.drop 0).take (Int.toNat (IntKind.i64.wrap (((x10.length : Nat) : Int) - 1)))) x11 x12).1) 2)
             (1, (((x9.drop 0).take x9.length) ++ ([[(((Int.toNat ((x10.getD (Int.toNat (IntKind.i64.wrap (((x10.length : Nat) : Int) - 1))) []).getD 0 0)) : Nat) : Int), (((Int.toNat ((x10.getD (Int.toNat (IntKind.i64.wrap (((x10.length : Nat) : Int) - 1))) []).getD 1 0)) : Nat) : Int)]] : List (List Int))), [])
             (3, [], []))))
          (3, [], []))
         (3, [], []))
        (3, [], []))
       (cond ((((x12.getD (Int.toNat x0) []).getD 0 0) : Int) == 12)
        (cond ((decide ((0 : Int) ≤ (IntKind.i64.wrap (((x10.length : Nat) : Int) - 1)))) && (Nat.blt (Int.toNat (IntKind.i64.wrap (((x10.length : Nat) : Int) - 1))) x10.length))
         (ih (IntKind.i64.wrap (x0 + 1)) x1 x2 x3 x4 x5 x6 x7 x8 x9 (x10.set (Int.toNat (IntKind.i64.wrap (((x10.length : Nat) : Int) - 1))) [(((fneg .f32 (Int.toNat ((x10.getD (Int.toNat (IntKind.i64.wrap (((x10.length : Nat) : Int) - 1))) []).getD 1 0))) : Nat) : Int), (((fneg .f32 (Int.toNat ((x10.getD (Int.toNat (IntKind.i64.wrap (((x10.length : Nat) : Int) - 1))) []).getD 0 0))) : Nat) : Int)]) x11 x12)
         (3, [], []))
        (cond ((((x12.getD (Int.toNat x0) []).getD 0 0) : Int) == 11)
         (cond ((decide ((0 : Int) ≤ (IntKind.i64.wrap (((x10.length : Nat) : Int) - 3)))) && (Nat.blt (Int.toNat (IntKind.i64.wrap (((x10.length : Nat) : Int) - 3))) x10.length))
          (cond ((decide ((0 : Int) ≤ (IntKind.i64.wrap (((x10.length : Nat) : Int) - 2)))) && (Nat.blt (Int.toNat (IntKind.i64.wrap (((x10.length : Nat) : Int) - 2))) x10.length))
           (cond ((decide ((0 : Int) ≤ (IntKind.i64.wrap (((x10.length : Nat) : Int) - 1)))) && (Nat.blt (Int.toNat (IntKind.i64.wrap (((x10.length : Nat) : Int) - 1))) x10.length))
            (cond ((Nat.blt 0 ((x10.set (Int.toNat (IntKind.i64.wrap (((x10.length : Nat) : Int) - 3))) [(((c31.1) : Nat) : Int), (((c31.2) : Nat) : Int)]).length)) && (((decide ((0 : Int) ≤ (IntKind.i64.wrap (((x10.length : Nat) : Int) - 2)))) && (Nat.ble 0 (Int.toNat (IntKind.i64.wrap (((x10.length : Nat) : Int) - 2))))) && (Nat.ble (Int.toNat (IntKind.i64.wrap (((x10.length : Nat) : Int) - 2))) ((x10.set (Int.toNat (IntKind.i64.wrap (((x10.length : Nat) : Int) - 3))) [(((c31.1) : Nat) : Int), (((c31.2) : Nat) : Int)]).length))))
             (cond (Nat.beq ((ih (IntKind.i64.wrap (x0 + 1)) x1 x2 x3 x4 x5 x6 x7 x8 x9 (((x10.set (Int.toNat (IntKind.i64.wrap (((x10.length : Nat) : Int) - 3))) [(((c31.1) : Nat) : Int), (((c31.2) : Nat) : Int)]).drop 0).take (Int.toNat (IntKind.i64.wrap (((x10.length : Nat) : Int) - 2)))) x11 x12).1) 0)
              (0, [], [])
              (cond (Nat.beq ((ih (IntKind.i64.wrap (x0 + 1)) x1 x2 x3 x4 x5 x6 x7 x8 x9 (((x10.set (Int.toNat (IntKind.i64.wrap (((x10.length : Nat) : Int) - 3))) [(((c31.1) : Nat) : Int), (((c31.2) : Nat) : Int)]).drop 0).take (Int.toNat (IntKind.i64.wrap (((x10.length : Nat) : Int) - 2)))) x11 x12).1) 1)
               (1, ((ih (IntKind.i64.wrap (x0 + 1)) x1 x2 x3 x4 x5 x6 x7 x8 x9 (((x10.set (Int.toNat (IntKind.i64.wrap (((x10.length : Nat) : Int) - 3))) [(((c31.1) : Nat) : Int), (((c31.2) : Nat) : Int)]).drop 0).take (Int.toNat (IntKind.i64.wrap (((x10.length : Nat) : Int) - 2)))) x11 x12).2.1), [])
               (cond (Nat.beq ((ih (IntKind.i64.wrap (x0 + 1)) x1 x2 x3 x4 x5 x6 x7 x8 x9 (((x10.set (Int.toNat (IntKind.i64.wrap (((x10.length : Nat) : Int) - 3))) [(((c31.1) : Nat) : Int), (((c31.2) : Nat) : Int)]).drop 0).take (Int.toNat (IntKind.i64.wrap (((x10.length : Nat) : Int) - 2)))) x11 x12).1) 2)
                (0, [], [])
                (3, [], []))))
             (3, [], []))
            (3, [], []))
           (3, [], []))
          (3, [], []))
         (cond ((decide ((0 : Int) ≤ (IntKind.i64.wrap (((x10.length : Nat) : Int) - 2)))) && (Nat.blt (Int.toNat (IntKind.i64.wrap (((x10.length : Nat) : Int) - 2))) x10.length))
          (cond ((decide ((0 : Int) ≤ (IntKind.i64.wrap (((x10.length : Nat) : Int) - 1)))) && (Nat.blt (Int.toNat (IntKind.i64.wrap (((x10.length : Nat) : Int) - 1))) x10.length))
           (cond (Nat.beq (c32.1) 0)
            (cond ((Nat.blt 0 ((x10.set (Int.toNat (IntKind.i64.wrap (((x10.length : Nat) : Int) - 2))) [(((c32.2.1) : Nat) : Int), (((c32.2.2) : Nat) : Int)]).length)) && (((decide ((0 : Int) ≤ (IntKind.i64.wrap (((x10.length : Nat) : Int) - 1)))) && (Nat.ble 0 (Int.toNat (IntKind.i64.wrap (((x10.length : Nat) : Int) - 1))))) && (Nat.ble (Int.toNat (IntKind.i64.wrap (((x10.length : Nat) : Int) - 1))) ((x10.set (Int.toNat (IntKind.i64.wrap (((x10.length : Nat) : Int) - 2))) [(((c32.2.1) : Nat) : Int), (((c32.2.2) : Nat) : Int)]).length))))
             (cond (Nat.beq ((ih (IntKind.i64.wrap (x0 + 1)) x1 x2 x3 x4 x5 x6 x7 x8 x9 (((x10.set (Int.toNat (IntKind.i64.wrap (((x10.length : Nat) : Int) - 2))) [(((c32.2.1) : Nat) : Int), (((c32.2.2) : Nat) : Int)]).drop 0).take (Int.toNat (IntKind.i64.wrap (((x10.length : Nat) : Int) - 1)))) x11 x12).1) 0)
              (0, [], [])
              (cond (Nat.beq ((ih (IntKind.i64.wrap (x0 + 1)) x1 x2 x3 x4 x5 x6 x7 x8 x9 (((x10.set (Int.toNat (IntKind.i64.wrap (((x10.length : Nat) : Int) - 2))) [(((c32.2.1) : Nat) : Int), (((c32.2.2) : Nat) : Int)]).drop 0).take (Int.toNat (IntKind.i64.wrap (((x10.length : Nat) : Int) - 1)))) x11 x12).1) 1)
               (1, ((ih (IntKind.i64.wrap (x0 + 1)) x1 x2 x3 x4 x5 x6 x7 x8 x9 (((x10.set (Int.toNat (IntKind.i64.wrap (((x10.length : Nat) : Int) - 2))) [(((c32.2.1) : Nat) : Int), (((c32.2.2) : Nat) : Int)]).drop 0).take (Int.toNat (IntKind.i64.wrap (((x10.length : Nat) : Int) - 1)))) x11 x12).2.1), [])
               (cond (Nat.beq ((ih (IntKind.i64.wrap (x0 + 1)) x1 x2 x3 x4 x5 x6 x7 x8 x9 (((x10.set (Int.toNat (IntKind.i64.wrap (((x10.length : Nat) : Int) - 2))) [(((c32.2.1) : Nat) : Int), (((c32.2.2) : Nat) : Int)]).drop 0).take (Int.toNat (IntKind.i64.wrap (((x10.length : Nat) : Int) - 1)))) x11 x12).1) 2)
                (0, [], [])
                (3, [], []))))
             (3, [], []))
            (3, [], []))
           (3, [], []))
          (3, [], []))))))))
   (3, [], []))
  (2, [], x10)
noncomputable def r62l0 : Nat → Int → Nat → Nat → Nat → Nat → Nat → Nat → Nat → Nat → List (List Int) → List (List Int) → List ByteArray → List (List Int) → (Nat × List (List Int) × List (List Int))
 | 0 => fun _ _ _ _ _ _ _ _ _ _ _ _ _ => (3, [], [])
 | m + 1 => b62l0 (r62l0 m)
noncomputable def a62l0 (x0 : Int) (x1 x2 x3 x4 x5 x6 x7 x8 : Nat) (x9 x10 : List (List Int)) (x11 : List ByteArray) (x12 : List (List Int)) (p : Nat × List (List Int) × List (List Int)) : Option (Fin' × List Value × St) := firstT ([((Nat.beq (p.1) 0), .exit 0, [wsl 2], ⟨[⟨true, (some (.cells [wsl 4, wsl 5]))⟩, ⟨true, (some (.cells [.float .f32 x1, .float .f32 x2, .float .f32 x3, .float .f32 x4, .float .f32 x5, .float .f32 x6, .float .f32 x7, .float .f32 x8]))⟩, ⟨true, (some (.tab [.fl .f32, .fl .f32] x9))⟩, ⟨true, none⟩, ⟨true, (some (.strs x11))⟩, ⟨true, (some (.tab [.int .i8, .int .i16, .fl .f32] x12))⟩], 6, [2, 3]⟩), ((Nat.beq (p.1) 1), .exit 0, [wsl 6], ⟨[⟨true, (some (.cells [wsl 4, wsl 5]))⟩, ⟨true, (some (.cells [.float .f32 x1, .float .f32 x2, .float .f32 x3, .float .f32 x4, .float .f32 x5, .float .f32 x6, .float .f32 x7, .float .f32 x8]))⟩, ⟨true, none⟩, ⟨true, none⟩, ⟨true, (some (.strs x11))⟩, ⟨true, (some (.tab [.int .i8, .int .i16, .fl .f32] x12))⟩, ⟨true, (some (.tab [.fl .f32, .fl .f32] (p.2.1)))⟩], 6, [2, 3]⟩), ((Nat.beq (p.1) 2), .exit 0, [wsl 2], ⟨[⟨true, (some (.cells [wsl 4, wsl 5]))⟩, ⟨true, (some (.cells [.float .f32 x1, .float .f32 x2, .float .f32 x3, .float .f32 x4, .float .f32 x5, .float .f32 x6, .float .f32 x7, .float .f32 x8]))⟩, ⟨true, (some (.tab [.fl .f32, .fl .f32] x9))⟩, ⟨true, (some (.tab [.fl .f32, .fl .f32] (p.2.2)))⟩, ⟨true, (some (.strs x11))⟩, ⟨true, (some (.tab [.int .i8, .int .i16, .fl .f32] x12))⟩], 6, [2, 3]⟩)].map fun (b, x) => (b, (x.1, frameOf 155 [5] x.2.1, x.2.2)))
noncomputable def u62l0 (x0 : Int) (x1 x2 x3 x4 x5 x6 x7 x8 : Nat) (x9 x10 : List (List Int)) (x11 : List ByteArray) (x12 : List (List Int)) (p : Nat × List (List Int) × List (List Int)) : Option (Fin' × List Value × St) := alts ([((Nat.beq (p.1) 0), .exit 0, [wsl 2], ⟨[⟨true, (some (.cells [wsl 4, wsl 5]))⟩, ⟨true, (some (.cells [.float .f32 x1, .float .f32 x2, .float .f32 x3, .float .f32 x4, .float .f32 x5, .float .f32 x6, .float .f32 x7, .float .f32 x8]))⟩, ⟨true, (some (.tab [.fl .f32, .fl .f32] x9))⟩, ⟨true, none⟩, ⟨true, (some (.strs x11))⟩, ⟨true, (some (.tab [.int .i8, .int .i16, .fl .f32] x12))⟩], 6, [2, 3]⟩), ((Nat.beq (p.1) 1), .exit 0, [wsl 6], ⟨[⟨true, (some (.cells [wsl 4, wsl 5]))⟩, ⟨true, (some (.cells [.float .f32 x1, .float .f32 x2, .float .f32 x3, .float .f32 x4, .float .f32 x5, .float .f32 x6, .float .f32 x7, .float .f32 x8]))⟩, ⟨true, none⟩, ⟨true, none⟩, ⟨true, (some (.strs x11))⟩, ⟨true, (some (.tab [.int .i8, .int .i16, .fl .f32] x12))⟩, ⟨true, (some (.tab [.fl .f32, .fl .f32] (p.2.1)))⟩], 6, [2, 3]⟩), ((Nat.beq (p.1) 2), .exit 0, [wsl 2], ⟨[⟨true, (some (.cells [wsl 4, wsl 5]))⟩, ⟨true, (some (.cells [.float .f32 x1, .float .f32 x2, .float .f32 x3, .float .f32 x4, .float .f32 x5, .float .f32 x6, .float .f32 x7, .float .f32 x8]))⟩, ⟨true, (some (.tab [.fl .f32, .fl .f32] x9))⟩, ⟨true, (some (.tab [.fl .f32, .fl .f32] (p.2.2)))⟩, ⟨true, (some (.strs x11))⟩, ⟨true, (some (.tab [.int .i8, .int .i16, .fl .f32] x12))⟩], 6, [2, 3]⟩)].map fun (b, x) => (b, (x.1, frameOf 155 [5] x.2.1, x.2.2))) some
theorem v62l0 (x0 : Int) (x1 x2 x3 x4 x5 x6 x7 x8 : Nat) (x9 x10 : List (List Int)) (x11 : List ByteArray) (x12 : List (List Int)) (p : Nat × List (List Int) × List (List Int)) : u62l0 x0 x1 x2 x3 x4 x5 x6 x7 x8 x9 x10 x11 x12 p = a62l0 x0 x1 x2 x3 x4 x5 x6 x7 x8 x9 x10 x11 x12 p := alts_first _
noncomputable def q62l0 (m : Nat) : SumK := fun vals s =>
 match vals, s.h with
 | [.pointer (some ⟨f0, f1, some f2⟩), .pointer (some ⟨f3, f4, some f5⟩), .iface f6 .nilIface, .iface f7 .nilIface, .int .i64 x0], [⟨true, some (.cells [.iface f8 .nilIface, .iface f9 .nilIface])⟩, ⟨true, some (.cells [.float .f32 x1, .float .f32 x2, .float .f32 x3, .float .f32 x4, .float .f32 x5, .float .f32 x6, .float .f32 x7, .float .f32 x8])⟩, ⟨true, some (.tab [.fl .f32, .fl .f32] x9)⟩, ⟨true, some (.tab [.fl .f32, .fl .f32] x10)⟩, ⟨true, some (.strs x11)⟩, ⟨true, some (.tab [.int .i8, .int .i16, .fl .f32] x12)⟩] => if f0 = 0 ∧ f1 = 0 ∧ f2 = 0 ∧ f3 = 1 ∧ f4 = 0 ∧ f5 = 0 ∧ f6 = 2 ∧ f7 = 3 ∧ f8 = 4 ∧ f9 = 5 then [((Nat.beq ((r62l0 m x0 x1 x2 x3 x4 x5 x6 x7 x8 x9 x10 x11 x12).1) 0), .exit 0, [wsl 2], ⟨[⟨true, (some (.cells [wsl 4, wsl 5]))⟩, ⟨true, (some (.cells [.float .f32 x1, .float .f32 x2, .float .f32 x3, .float .f32 x4, .float .f32 x5, .float .f32 x6, .float .f32 x7, .float .f32 x8]))⟩, ⟨true, (some (.tab [.fl .f32, .fl .f32] x9))⟩, ⟨true, none⟩, ⟨true, (some (.strs x11))⟩, ⟨true, (some (.tab [.int .i8, .int .i16, .fl .f32] x12))⟩], 6, [2, 3]⟩), ((Nat.beq ((r62l0 m x0 x1 x2 x3 x4 x5 x6 x7 x8 x9 x10 x11 x12).1) 1), .exit 0, [wsl 6], ⟨[⟨true, (some (.cells [wsl 4, wsl 5]))⟩, ⟨true, (some (.cells [.float .f32 x1, .float .f32 x2, .float .f32 x3, .float .f32 x4, .float .f32 x5, .float .f32 x6, .float .f32 x7, .float .f32 x8]))⟩, ⟨true, none⟩, ⟨true, none⟩, ⟨true, (some (.strs x11))⟩, ⟨true, (some (.tab [.int .i8, .int .i16, .fl .f32] x12))⟩, ⟨true, (some (.tab [.fl .f32, .fl .f32] ((r62l0 m x0 x1 x2 x3 x4 x5 x6 x7 x8 x9 x10 x11 x12).2.1)))⟩], 6, [2, 3]⟩), ((Nat.beq ((r62l0 m x0 x1 x2 x3 x4 x5 x6 x7 x8 x9 x10 x11 x12).1) 2), .exit 0, [wsl 2], ⟨[⟨true, (some (.cells [wsl 4, wsl 5]))⟩, ⟨true, (some (.cells [.float .f32 x1, .float .f32 x2, .float .f32 x3, .float .f32 x4, .float .f32 x5, .float .f32 x6, .float .f32 x7, .float .f32 x8]))⟩, ⟨true, (some (.tab [.fl .f32, .fl .f32] x9))⟩, ⟨true, (some (.tab [.fl .f32, .fl .f32] ((r62l0 m x0 x1 x2 x3 x4 x5 x6 x7 x8 x9 x10 x11 x12).2.2)))⟩, ⟨true, (some (.strs x11))⟩, ⟨true, (some (.tab [.int .i8, .int .i16, .fl .f32] x12))⟩], 6, [2, 3]⟩)] else noQ vals s
 | _, _ => noQ vals s
noncomputable def w62l0 (ih : Int → Nat → Nat → Nat → Nat → Nat → Nat → Nat → Nat → List (List Int) → List (List Int) → List ByteArray → List (List Int) → (Nat × List (List Int) × List (List Int))) (x0 : Int) (x1 x2 x3 x4 x5 x6 x7 x8 : Nat) (x9 x10 : List (List Int)) (x11 : List ByteArray) (x12 : List (List Int)) : Option (Fin' × List Value × St) :=
 let c31 := (r86 (Int.toNat ((x10.getD (Int.toNat (IntKind.i64.wrap (((x10.length : Nat) : Int) - 3))) []).getD 0 0)) (Int.toNat ((x10.getD (Int.toNat (IntKind.i64.wrap (((x10.length : Nat) : Int) - 3))) []).getD 1 0)) (Int.toNat ((x10.getD (Int.toNat (IntKind.i64.wrap (((x10.length : Nat) : Int) - 2))) []).getD 0 0)) (Int.toNat ((x10.getD (Int.toNat (IntKind.i64.wrap (((x10.length : Nat) : Int) - 2))) []).getD 1 0)) (Int.toNat ((x10.getD (Int.toNat (IntKind.i64.wrap (((x10.length : Nat) : Int) - 1))) []).getD 0 0)) (Int.toNat ((x10.getD (Int.toNat (IntKind.i64.wrap (((x10.length : Nat) : Int) - 1))) []).getD 1 0)))
 let c32 := (r87 ((x12.getD (Int.toNat x0) []).getD 0 0) (Int.toNat ((x10.getD (Int.toNat (IntKind.i64.wrap (((x10.length : Nat) : Int) - 2))) []).getD 0 0)) (Int.toNat ((x10.getD (Int.toNat (IntKind.i64.wrap (((x10.length : Nat) : Int) - 2))) []).getD 1 0)) (Int.toNat ((x10.getD (Int.toNat (IntKind.i64.wrap (((x10.length : Nat) : Int) - 1))) []).getD 0 0)) (Int.toNat ((x10.getD (Int.toNat (IntKind.i64.wrap (((x10.length : Nat) : Int) - 1))) []).getD 1 0)))
 (cond (decide ((x0 : Int) < ((x12.length : Nat) : Int)))
 (cond ((decide ((0 : Int) ≤ x0)) && (Nat.blt (Int.toNat x0) x12.length))
  (cond (Nat.blt (Int.toNat x0) x12.length)
   (cond ((((x12.getD (Int.toNat x0) []).getD 0 0) : Int) == 1)
    (cond (Nat.blt (Int.toNat x0) x12.length)
     (cond (Nat.blt (Int.toNat x0) x12.length)
      (cond (Nat.ble ((x10.length + 1) * 9) 140737488355328)
       (cond (Nat.beq ((ih (IntKind.i64.wrap (x0 + 1)) x1 x2 x3 x4 x5 x6 x7 x8 x9 (((x10.drop 0).take x10.length) ++ ([[(((Int.toNat ((x12.getD (Int.toNat x0) []).getD 2 0)) : Nat) : Int), (((Int.toNat ((x12.getD (Int.toNat x0) []).getD 2 0)) : Nat) : Int)]] : List (List Int))) x11 x12).1) 0)
        (a62l0 x0 x1 x2 x3 x4 x5 x6 x7 x8 x9 x10 x11 x12 (0, [], []))
        (cond (Nat.beq ((ih (IntKind.i64.wrap (x0 + 1)) x1 x2 x3 x4 x5 x6 x7 x8 x9 (((x10.drop 0).take x10.length) ++ ([[(((Int.toNat ((x12.getD (Int.toNat x0) []).getD 2 0)) : Nat) : Int), (((Int.toNat ((x12.getD (Int.toNat x0) []).getD 2 0)) : Nat) : Int)]] : List (List Int))) x11 x12).1) 1)
         (a62l0 x0 x1 x2 x3 x4 x5 x6 x7 x8 x9 x10 x11 x12 (1, ((ih (IntKind.i64.wrap (x0 + 1)) x1 x2 x3 x4 x5 x6 x7 x8 x9 (((x10.drop 0).take x10.length) ++ ([[(((Int.toNat ((x12.getD (Int.toNat x0) []).getD 2 0)) : Nat) : Int), (((Int.toNat ((x12.getD (Int.toNat x0) []).getD 2 0)) : Nat) : Int)]] : List (List Int))) x11 x12).2.1), []))
         (cond (Nat.beq ((ih (IntKind.i64.wrap (x0 + 1)) x1 x2 x3 x4 x5 x6 x7 x8 x9 (((x10.drop 0).take x10.length) ++ ([[(((Int.toNat ((x12.getD (Int.toNat x0) []).getD 2 0)) : Nat) : Int), (((Int.toNat ((x12.getD (Int.toNat x0) []).getD 2 0)) : Nat) : Int)]] : List (List Int))) x11 x12).1) 2)
          (a62l0 x0 x1 x2 x3 x4 x5 x6 x7 x8 x9 x10 x11 x12 (0, [], []))
          none)))
       none)
      none)
     none)
    (cond ((((x12.getD (Int.toNat x0) []).getD 0 0) : Int) == 2)
     (cond (Nat.blt (Int.toNat x0) x12.length)
      (cond ((decide ((0 : Int) ≤ ((x12.getD (Int.toNat x0) []).getD 1 0))) && (Nat.blt (Int.toNat ((x12.getD (Int.toNat x0) []).getD 1 0)) 4))
       (cond (Nat.beq (0 + (Int.toNat ((x12.getD (Int.toNat x0) []).getD 1 0)) * 2) 0)
        (cond (Nat.ble ((x10.length + 1) * 9) 140737488355328)
         (cond (Nat.beq ((ih (IntKind.i64.wrap (x0 + 1)) x1 x2 x3 x4 x5 x6 x7 x8 x9 (((x10.drop 0).take x10.length) ++ ([[((x1 : Nat) : Int), ((x2 : Nat) : Int)]] : List (List Int))) x11 x12).1) 0)
          (a62l0 x0 x1 x2 x3 x4 x5 x6 x7 x8 x9 x10 x11 x12 (0, [], []))
          (cond (Nat.beq ((ih (IntKind.i64.wrap (x0 + 1)) x1 x2 x3 x4 x5 x6 x7 x8 x9 (((x10.drop 0).take x10.length) ++ ([[((x1 : Nat) : Int), ((x2 : Nat) : Int)]] : List (List Int))) x11 x12).1) 1)
           (a62l0 x0 x1 x2 x3 x4 x5 x6 x7 x8 x9 x10 x11 x12 (1, ((ih (IntKind.i64.wrap (x0 + 1)) x1 x2 x3 x4 x5 x6 x7 x8 x9 (((x10.drop 0).take x10.length) ++ ([[((x1 : Nat) : Int), ((x2 : Nat) : Int)]] : List (List Int))) x11 x12).2.1), []))
           (cond (Nat.beq ((ih (IntKind.i64.wrap (x0 + 1)) x1 x2 x3 x4 x5 x6 x7 x8 x9 (((x10.drop 0).take x10.length) ++ ([[((x1 : Nat) : Int), ((x2 : Nat) : Int)]] : List (List Int))) x11 x12).1) 2)
            (a62l0 x0 x1 x2 x3 x4 x5 x6 x7 x8 x9 x10 x11 x12 (0, [], []))
            none)))
         none)
        (cond (Nat.beq (0 + (Int.toNat ((x12.getD (Int.toNat x0) []).getD 1 0)) * 2) 1)
         (cond (Nat.ble ((x10.length + 1) * 9) 140737488355328)
          (cond (Nat.beq ((ih (IntKind.i64.wrap (x0 + 1)) x1 x2 x3 x4 x5 x6 x7 x8 x9 (((x10.drop 0).take x10.length) ++ ([[((x2 : Nat) : Int), ((x3 : Nat) : Int)]] : List (List Int))) x11 x12).1) 0)
           (a62l0 x0 x1 x2 x3 x4 x5 x6 x7 x8 x9 x10 x11 x12 (0, [], []))
           (cond (Nat.beq ((ih (IntKind.i64.wrap (x0 + 1)) x1 x2 x3 x4 x5 x6 x7 x8 x9 (((x10.drop 0).take x10.length) ++ ([[((x2 : Nat) : Int), ((x3 : Nat) : Int)]] : List (List Int))) x11 x12).1) 1)
            (a62l0 x0 x1 x2 x3 x4 x5 x6 x7 x8 x9 x10 x11 x12 (1, ((ih (IntKind.i64.wrap (x0 + 1)) x1 x2 x3 x4 x5 x6 x7 x8 x9 (((x10.drop 0).take x10.length) ++ ([[((x2 : Nat) : Int), ((x3 : Nat) : Int)]] : List (List Int))) x11 x12).2.1), []))
            (cond (Nat.beq ((ih (IntKind.i64.wrap (x0 + 1)) x1 x2 x3 x4 x5 x6 x7 x8 x9 (((x10.drop 0).take x10.length) ++ ([[((x2 : Nat) : Int), ((x3 : Nat) : Int)]] : List (List Int))) x11 x12).1) 2)
             (a62l0 x0 x1 x2 x3 x4 x5 x6 x7 x8 x9 x10 x11 x12 (0, [], []))
             none)))
          none)
         (cond (Nat.beq (0 + (Int.toNat ((x12.getD (Int.toNat x0) []).getD 1 0)) * 2) 2)
          (cond (Nat.ble ((x10.length + 1) * 9) 140737488355328)
           (cond (Nat.beq ((ih (IntKind.i64.wrap (x0 + 1)) x1 x2 x3 x4 x5 x6 x7 x8 x9 (((x10.drop 0).take x10.length) ++ ([[((x3 : Nat) : Int), ((x4 : Nat) : Int)]] : List (List Int))) x11 x12).1) 0)
            (a62l0 x0 x1 x2 x3 x4 x5 x6 x7 x8 x9 x10 x11 x12 (0, [], []))
            (cond (Nat.beq ((ih (IntKind.i64.wrap (x0 + 1)) x1 x2 x3 x4 x5 x6 x7 x8 x9 (((x10.drop 0).take x10.length) ++ ([[((x3 : Nat) : Int), ((x4 : Nat) : Int)]] : List (List Int))) x11 x12).1) 1)
             (a62l0 x0 x1 x2 x3 x4 x5 x6 x7 x8 x9 x10 x11 x12 (1, ((ih (IntKind.i64.wrap (x0 + 1)) x1 x2 x3 x4 x5 x6 x7 x8 x9 (((x10.drop 0).take x10.length) ++ ([[((x3 : Nat) : Int), ((x4 : Nat) : Int)]] : List (List Int))) x11 x12).2.1), []))
             (cond (Nat.beq ((ih (IntKind.i64.wrap (x0 + 1)) x1 x2 x3 x4 x5 x6 x7 x8 x9 (((x10.drop 0).take x10.length) ++ ([[((x3 : Nat) : Int), ((x4 : Nat) : Int)]] : List (List Int))) x11 x12).1) 2)
              (a62l0 x0 x1 x2 x3 x4 x5 x6 x7 x8 x9 x10 x11 x12 (0, [], []))
              none)))
           none)
          (cond (Nat.beq (0 + (Int.toNat ((x12.getD (Int.toNat x0) []).getD 1 0)) * 2) 3)
           (cond (Nat.ble ((x10.length + 1) * 9) 140737488355328)
            (cond (Nat.beq ((ih (IntKind.i64.wrap (x0 + 1)) x1 x2 x3 x4 x5 x6 x7 x8 x9 (((x10.drop 0).take x10.length) ++ ([[((x4 : Nat) : Int), ((x5 : Nat) : Int)]] : List (List Int))) x11 x12).1) 0)
             (a62l0 x0 x1 x2 x3 x4 x5 x6 x7 x8 x9 x10 x11 x12 (0, [], []))
             (cond (Nat.beq ((ih (IntKind.i64.wrap (x0 + 1)) x1 x2 x3 x4 x5 x6 x7 x8 x9 (((x10.drop 0).take x10.length) ++ ([[((x4 : Nat) : Int), ((x5 : Nat) : Int)]] : List (List Int))) x11 x12).1) 1)
              (a62l0 x0 x1 x2 x3 x4 x5 x6 x7 x8 x9 x10 x11 x12 (1, ((ih (IntKind.i64.wrap (x0 + 1)) x1 x2 x3 x4 x5 x6 x7 x8 x9 (((x10.drop 0).take x10.length) ++ ([[((x4 : Nat) : Int), ((x5 : Nat) : Int)]] : List (List Int))) x11 x12).2.1), []))
              (cond (Nat.beq ((ih (IntKind.i64.wrap (x0 + 1)) x1 x2 x3 x4 x5 x6 x7 x8 x9 (((x10.drop 0).take x10.length) ++ ([[((x4 : Nat) : Int), ((x5 : Nat) : Int)]] : List (List Int))) x11 x12).1) 2)
               (a62l0 x0 x1 x2 x3 x4 x5 x6 x7 x8 x9 x10 x11 x12 (0, [], []))
               none)))
            none)
           (cond (Nat.beq (0 + (Int.toNat ((x12.getD (Int.toNat x0) []).getD 1 0)) * 2) 4)
            (cond (Nat.ble ((x10.length + 1) * 9) 140737488355328)
             (cond (Nat.beq ((ih (IntKind.i64.wrap (x0 + 1)) x1 x2 x3 x4 x5 x6 x7 x8 x9 (((x10.drop 0).take x10.length) ++ ([[((x5 : Nat) : Int), ((x6 : Nat) : Int)]] : List (List Int))) x11 x12).1) 0)
              (a62l0 x0 x1 x2 x3 x4 x5 x6 x7 x8 x9 x10 x11 x12 (0, [], []))
              (cond (Nat.beq ((ih (IntKind.i64.wrap (x0 + 1)) x1 x2 x3 x4 x5 x6 x7 x8 x9 (((x10.drop 0).take x10.length) ++ ([[((x5 : Nat) : Int), ((x6 : Nat) : Int)]] : List (List Int))) x11 x12).1) 1)
               (a62l0 x0 x1 x2 x3 x4 x5 x6 x7 x8 x9 x10 x11 x12 (1, ((ih (IntKind.i64.wrap (x0 + 1)) x1 x2 x3 x4 x5 x6 x7 x8 x9 (((x10.drop 0).take x10.length) ++ ([[((x5 : Nat) : Int), ((x6 : Nat) : Int)]] : List (List Int))) x11 x12).2.1), []))
               (cond (Nat.beq ((ih (IntKind.i64.wrap (x0 + 1)) x1 x2 x3 x4 x5 x6 x7 x8 x9 (((x10.drop 0).take x10.length) ++ ([[((x5 : Nat) : Int), ((x6 : Nat) : Int)]] : List (List Int))) x11 x12).1) 2)
                (a62l0 x0 x1 x2 x3 x4 x5 x6 x7 x8 x9 x10 x11 x12 (0, [], []))
                none)))
             none)
            (cond (Nat.beq (0 + (Int.toNat ((x12.getD (Int.toNat x0) []).getD 1 0)) * 2) 5)
             (cond (Nat.ble ((x10.length + 1) * 9) 140737488355328)
              (cond (Nat.beq ((ih (IntKind.i64.wrap (x0 + 1)) x1 x2 x3 x4 x5 x6 x7 x8 x9 (((x10.drop 0).take x10.length) ++ ([[((x6 : Nat) : Int), ((x7 : Nat) : Int)]] : List (List Int))) x11 x12).1) 0)
               (a62l0 x0 x1 x2 x3 x4 x5 x6 x7 x8 x9 x10 x11 x12 (0, [], []))
               (cond (Nat.beq ((ih (IntKind.i64.wrap (x0 + 1)) x1 x2 x3 x4 x5 x6 x7 x8 x9 (((x10.drop 0).take x10.length) ++ ([[((x6 : Nat) : Int), ((x7 : Nat) : Int)]] : List (List Int))) x11 x12).1) 1)
                (a62l0 x0 x1 x2 x3 x4 x5 x6 x7 x8 x9 x10 x11 x12 (1, ((ih (IntKind.i64.wrap (x0 + 1)) x1 x2 x3 x4 x5 x6 x7 x8 x9 (((x10.drop 0).take x10.length) ++ ([[((x6 : Nat) : Int), ((x7 : Nat) : Int)]] : List (List Int))) x11 x12).2.1), []))
                (cond (Nat.beq ((ih (IntKind.i64.wrap (x0 + 1)) x1 x2 x3 x4 x5 x6 x7 x8 x9 (((x10.drop 0).take x10.length) ++ ([[((x6 : Nat) : Int), ((x7 : Nat) : Int)]] : List (List Int))) x11 x12).1) 2)
                 (a62l0 x0 x1 x2 x3 x4 x5 x6 x7 x8 x9 x10 x11 x12 (0, [], []))
                 none)))
              none)
             (cond (Nat.beq (0 + (Int.toNat ((x12.getD (Int.toNat x0) []).getD 1 0)) * 2) 6)
              (cond (Nat.ble ((x10.length + 1) * 9) 140737488355328)
               (cond (Nat.beq ((ih (IntKind.i64.wrap (x0 + 1)) x1 x2 x3 x4 x5 x6 x7 x8 x9 (((x10.drop 0).take x10.length) ++ ([[((x7 : Nat) : Int), ((x8 : Nat) : Int)]] : List (List Int))) x11 x12).1) 0)
                (a62l0 x0 x1 x2 x3 x4 x5 x6 x7 x8 x9 x10 x11 x12 (0, [], []))
                (cond (Nat.beq ((ih (IntKind.i64.wrap (x0 + 1)) x1 x2 x3 x4 x5 x6 x7 x8 x9 (((x10.drop 0).take x10.length) ++ ([[((x7 : Nat) : Int), ((x8 : Nat) : Int)]] : List (List Int))) x11 x12).1) 1)
                 (a62l0 x0 x1 x2 x3 x4 x5 x6 x7 x8 x9 x10 x11 x12 (1, ((ih (IntKind.i64.wrap (x0 + 1)) x1 x2 x3 x4 x5 x6 x7 x8 x9 (((x10.drop 0).take x10.length) ++ ([[((x7 : Nat) : Int), ((x8 : Nat) : Int)]] : List (List Int))) x11 x12).2.1), []))
                 (cond (Nat.beq ((ih (IntKind.i64.wrap (x0 + 1)) x1 x2 x3 x4 x5 x6 x7 x8 x9 (((x10.drop 0).take x10.length) ++ ([[((x7 : Nat) : Int), ((x8 : Nat) : Int)]] : List (List Int))) x11 x12).1) 2)
                  (a62l0 x0 x1 x2 x3 x4 x5 x6 x7 x8 x9 x10 x11 x12 (0, [], []))
                  none)))
               none)
              none)))))))
       none)
      none)
     (cond ((((x12.getD (Int.toNat x0) []).getD 0 0) : Int) == 3)
      (cond (Nat.blt (Int.toNat x0) x12.length)
       (cond ((decide ((0 : Int) ≤ ((x12.getD (Int.toNat x0) []).getD 1 0))) && (Nat.blt (Int.toNat ((x12.getD (Int.toNat x0) []).getD 1 0)) x9.length))
        (cond (Nat.blt (Int.toNat ((x12.getD (Int.toNat x0) []).getD 1 0)) x9.length)
         (cond (Nat.ble ((x10.length + 1) * 9) 140737488355328)
          (cond (Nat.beq ((ih (IntKind.i64.wrap (x0 + 1)) x1 x2 x3 x4 x5 x6 x7 x8 x9 (((x10.drop 0).take x10.length) ++ ([[(((Int.toNat ((x9.getD (Int.toNat ((x12.getD (Int.toNat x0) []).getD 1 0)) []).getD 0 0)) : Nat) : Int), (((Int.toNat ((x9.getD (Int.toNat ((x12.getD (Int.toNat x0) []).getD 1 0)) []).getD 1 0)) : Nat) : Int)]] : List (List Int))) x11 x12).1) 0)
           (a62l0 x0 x1 x2 x3 x4 x5 x6 x7 x8 x9 x10 x11 x12 (0, [], []))
           (cond (Nat.beq ((ih (IntKind.i64.wrap (x0 + 1)) x1 x2 x3 x4 x5 x6 x7 x8 x9 (((x10.drop 0).take x10.length) ++ ([[(((Int.toNat ((x9.getD (Int.toNat ((x12.getD (Int.toNat x0) []).getD 1 0)) []).getD 0 0)) : Nat) : Int), (((Int.toNat ((x9.getD (Int.toNat ((x12.getD (Int.toNat x0) []).getD 1 0)) []).getD 1 0)) : Nat) : Int)]] : List (List Int))) x11 x12).1) 1)
            (a62l0 x0 x1 x2 x3 x4 x5 x6 x7 x8 x9 x10 x11 x12 (1, ((ih (IntKind.i64.wrap (x0 + 1)) x1 x2 x3 x4 x5 x6 x7 x8 x9 (((x10.drop 0).take x10.length) ++ ([[(((Int.toNat ((x9.getD (Int.toNat ((x12.getD (Int.toNat x0) []).getD 1 0)) []).getD 0 0)) : Nat) : Int), (((Int.toNat ((x9.getD (Int.toNat ((x12.getD (Int.toNat x0) []).getD 1 0)) []).getD 1 0)) : Nat) : Int)]] : List (List Int))) x11 x12).2.1), []))
            (cond (Nat.beq ((ih (IntKind.i64.wrap (x0 + 1)) x1 x2 x3 x4 x5 x6 x7 x8 x9 (((x10.drop 0).take x10.length) ++ ([[(((Int.toNat ((x9.getD (Int.toNat ((x12.getD (Int.toNat x0) []).getD 1 0)) []).getD 0 0)) : Nat) : Int), (((Int.toNat ((x9.getD (Int.toNat ((x12.getD (Int.toNat x0) []).getD 1 0)) []).getD 1 0)) : Nat) : Int)]] : List (List Int))) x11 x12).1) 2)
             (a62l0 x0 x1 x2 x3 x4 x5 x6 x7 x8 x9 x10 x11 x12 (0, [], []))
             none)))
          none)
         none)
        none)
       none)
      (cond ((((x12.getD (Int.toNat x0) []).getD 0 0) : Int) == 4)
       (cond ((decide ((0 : Int) ≤ (IntKind.i64.wrap (((x10.length : Nat) : Int) - 1)))) && (Nat.blt (Int.toNat (IntKind.i64.wrap (((x10.length : Nat) : Int) - 1))) x10.length))
        (cond (Nat.blt (Int.toNat (IntKind.i64.wrap (((x10.length : Nat) : Int) - 1))) x10.length)
         (cond (Nat.ble ((x9.length + 1) * 9) 140737488355328)
          (cond ((Nat.blt 0 x10.length) && (((decide ((0 : Int) ≤ (IntKind.i64.wrap (((x10.length : Nat) : Int) - 1)))) && (Nat.ble 0 (Int.toNat (IntKind.i64.wrap (((x10.length : Nat) : Int) - 1))))) && (Nat.ble (Int.toNat (IntKind.i64.wrap (((x10.length : Nat) : Int) - 1))) x10.length)))
           (cond (Nat.ble (Int.toNat (IntKind.i64.wrap (((x10.length : Nat) : Int) - 1))) x10.length)
            (cond (Nat.beq ((ih (IntKind.i64.wrap (x0 + 1)) x1 x2 x3 x4 x5 x6 x7 x8 (((x9.drop 0).take x9.length) ++ ([[(((Int.toNat ((x10.getD (Int.toNat (IntKind.i64.wrap (((x10.length : Nat) : Int) - 1))) []).getD 0 0)) : Nat) : Int), (((Int.toNat ((x10.getD (Int.toNat (IntKind.i64.wrap (((x10.length : Nat) : Int) - 1))) []).getD 1 0)) : Nat) : Int)]] : List (List Int))) ((x10.drop 0).take (Int.toNat (IntKind.i64.wrap (((x10.length : Nat) : Int) - 1)))) x11 x12).1) 0)
             (a62l0 x0 x1 x2 x3 x4 x5 x6 x7 x8 x9 x10 x11 x12 (1, (((x9.drop 0).take x9.length) ++ ([[(((Int.toNat ((x10.getD (Int.toNat (IntKind.i64.wrap (((x10.length : Nat) : Int) - 1))) []).getD 0 0)) : Nat) : Int), (((Int.toNat ((x10.getD (Int.toNat (IntKind.i64.wrap (((x10.length : Nat) : Int) - 1))) []).getD 1 0)) : Nat) : Int)]] : List (List Int))), []))
             (cond (Nat.beq ((ih (IntKind.i64.wrap (x0 + 1)) x1 x2 x3 x4 x5 x6 x7 x8 (((x9.drop 0).take x9.length) ++ ([[(((Int.toNat ((x10.getD (Int.toNat (IntKind.i64.wrap (((x10.length : Nat) : Int) - 1))) []).getD 0 0)) : Nat) : Int), (((Int.toNat ((x10.getD (Int.toNat (IntKind.i64.wrap (((x10.length : Nat) : Int) - 1))) []).getD 1 0)) : Nat) : Int)]] : List (List Int))) ((x10.drop 0).take (Int.toNat (IntKind.i64.wrap (((x10.length : Nat) : Int) - 1)))) x11 x12).1) 1)
              (a62l0 x0 x1 x2 x3 x4 x5 x6 x7 x8 x9 x10 x11 x12 (1, ((ih (IntKind.i64.wrap (x0 + 1)) x1 x2 x3 x4 x5 x6 x7 x8 (((x9.drop 0).take x9.length) ++ ([[(((Int.toNat ((x10.getD (Int.toNat (IntKind.i64.wrap (((x10.length : Nat) : Int) - 1))) []).getD 0 0)) : Nat) : Int), (((Int.toNat ((x10.getD (Int.toNat (IntKind.i64.wrap (((x10.length : Nat) : Int) - 1))) []).getD 1 0)) : Nat) : Int)]] : List (List Int))) ((x10.drop 0).take (Int.toNat (IntKind.i64.wrap (((x10.length : Nat) : Int) - 1)))) x11 x12).2.1), []))
              (cond (Nat.beq ((ih (IntKind.i64.wrap (x0 + 1)) x1 x2 x3 x4 x5 x6 x7 x8 (((x9.drop 0).take x9.length) ++ ([[(((Int.toNat ((x10.getD (Int.toNat (IntKind.i64.wrap (((x10.length : Nat) : Int) - 1))) []).getD 0 0)) : Nat) : Int), (((Int.toNat ((x10.getD (Int.toNat (IntKind.i64.wrap (((x10.length : Nat) : Int) - 1))) []).getD 1 0)) : Nat) : Int)]] : List (List Int))) ((x10.drop 0).take (Int.toNat (IntKind.i64.wrap (((x10.length : Nat) : Int) - 1)))) x11 x12).1) 2)
               (a62l0 x0 x1 x2 x3 x4 x5 x6 x7 x8 x9 x10 x11 x12 (1, (((x9.drop 0).take x9.length) ++ ([[(((Int.toNat ((x10.getD (Int.toNat (IntKind.i64.wrap (((x10.length : Nat) : Int) - 1))) []).getD 0 0)) : Nat) : Int), (((Int.toNat ((x10.getD (Int.toNat (IntKind.i64.wrap (((x10.length : Nat) : Int) - 1))) []).getD 1 0)) : Nat) : Int)]] : List (List Int))), []))
               none)))
            none)
           none)
          none)
         none)
        none)
       (cond ((((x12.getD (Int.toNat x0) []).getD 0 0) : Int) == 12)
        (cond ((decide ((0 : Int) ≤ (IntKind.i64.wrap (((x10.length : Nat) : Int) - 1)))) && (Nat.blt (Int.toNat (IntKind.i64.wrap (((x10.length : Nat) : Int) - 1))) x10.length))
         (cond (Nat.blt (Int.toNat (IntKind.i64.wrap (((x10.length : Nat) : Int) - 1))) x10.length)
          (cond ((decide ((0 : Int) ≤ (IntKind.i64.wrap (((x10.length : Nat) : Int) - 1)))) && (Nat.blt (Int.toNat (IntKind.i64.wrap (((x10.length : Nat) : Int) - 1))) x10.length))
           (cond (Nat.blt (Int.toNat (IntKind.i64.wrap (((x10.length : Nat) : Int) - 1))) x10.length)
            (cond ((decide ((0 : Int) ≤ (IntKind.i64.wrap (((x10.length : Nat) : Int) - 1)))) && (Nat.blt (Int.toNat (IntKind.i64.wrap (((x10.length : Nat) : Int) - 1))) x10.length))
             (cond (Nat.blt (Int.toNat (IntKind.i64.wrap (((x10.length : Nat) : Int) - 1))) x10.length)
              (u62l0 x0 x1 x2 x3 x4 x5 x6 x7 x8 x9 x10 x11 x12 (ih (IntKind.i64.wrap (x0 + 1)) x1 x2 x3 x4 x5 x6 x7 x8 x9 (x10.set (Int.toNat (IntKind.i64.wrap (((x10.length : Nat) : Int) - 1))) [(((fneg .f32 (Int.toNat ((x10.getD (Int.toNat (IntKind.i64.wrap (((x10.length : Nat) : Int) - 1))) []).getD 1 0))) : Nat) : Int), (((fneg .f32 (Int.toNat ((x10.getD (Int.toNat (IntKind.i64.wrap (((x10.length : Nat) : Int) - 1))) []).getD 0 0))) : Nat) : Int)]) x11 x12))
              none)
             none)
            none)
           none)
          none)
         none)
        (cond ((((x12.getD (Int.toNat x0) []).getD 0 0) : Int) == 11)
         (cond ((decide ((0 : Int) ≤ (IntKind.i64.wrap (((x10.length : Nat) : Int) - 3)))) && (Nat.blt (Int.toNat (IntKind.i64.wrap (((x10.length : Nat) : Int) - 3))) x10.length))
          (cond (Nat.blt (Int.toNat (IntKind.i64.wrap (((x10.length : Nat) : Int) - 3))) x10.length)
           (cond ((decide ((0 : Int) ≤ (IntKind.i64.wrap (((x10.length : Nat) : Int) - 2)))) && (Nat.blt (Int.toNat (IntKind.i64.wrap (((x10.length : Nat) : Int) - 2))) x10.length))
            (cond (Nat.blt (Int.toNat (IntKind.i64.wrap (((x10.length : Nat) : Int) - 2))) x10.length)
             (cond ((decide ((0 : Int) ≤ (IntKind.i64.wrap (((x10.length : Nat) : Int) - 1)))) && (Nat.blt (Int.toNat (IntKind.i64.wrap (((x10.length : Nat) : Int) - 1))) x10.length))
              (cond (Nat.blt (Int.toNat (IntKind.i64.wrap (((x10.length : Nat) : Int) - 1))) x10.length)
               (cond ((decide ((0 : Int) ≤ (IntKind.i64.wrap (((x10.length : Nat) : Int) - 3)))) && (Nat.blt (Int.toNat (IntKind.i64.wrap (((x10.length : Nat) : Int) - 3))) x10.length))
                (cond (Nat.blt (Int.toNat (IntKind.i64.wrap (((x10.length : Nat) : Int) - 3))) x10.length)
                 (cond ((Nat.blt 0 ((x10.set (Int.toNat (IntKind.i64.wrap (((x10.length : Nat) : Int) - 3))) [(((c31.1) : Nat) : Int), (((c31.2) : Nat) : Int)]).length)) && (((decide ((0 : Int) ≤ (IntKind.i64.wrap (((x10.length : Nat) : Int) - 2)))) && (Nat.ble 0 (Int.toNat (IntKind.i64.wrap (((x10.length : Nat) : Int) - 2))))) && (Nat.ble (Int.toNat (IntKind.i64.wrap (((x10.length : Nat) : Int) - 2))) ((x10.set (Int.toNat (IntKind.i64.wrap (((x10.length : Nat) : Int) - 3))) [(((c31.1) : Nat) : Int), (((c31.2) : Nat) : Int)]).length))))
                  (cond (Nat.ble (Int.toNat (IntKind.i64.wrap (((x10.length : Nat) : Int) - 2))) ((x10.set (Int.toNat (IntKind.i64.wrap (((x10.length : Nat) : Int) - 3))) [(((c31.1) : Nat) : Int), (((c31.2) : Nat) : Int)]).length))
                   (cond (Nat.beq ((ih (IntKind.i64.wrap (x0 + 1)) x1 x2 x3 x4 x5 x6 x7 x8 x9 (((x10.set (Int.toNat (IntKind.i64.wrap (((x10.length : Nat) : Int) - 3))) [(((c31.1) : Nat) : Int), (((c31.2) : Nat) : Int)]).drop 0).take (Int.toNat (IntKind.i64.wrap (((x10.length : Nat) : Int) - 2)))) x11 x12).1) 0)
                    (a62l0 x0 x1 x2 x3 x4 x5 x6 x7 x8 x9 x10 x11 x12 (0, [], []))
                    (cond (Nat.beq ((ih (IntKind.i64.wrap (x0 + 1)) x1 x2 x3 x4 x5 x6 x7 x8 x9 (((x10.set (Int.toNat (IntKind.i64.wrap (((x10.length : Nat) : Int) - 3))) [(((c31.1) : Nat) : Int), (((c31.2) : Nat) : Int)]).drop 0).take (Int.toNat (IntKind.i64.wrap (((x10.length : Nat) : Int) - 2)))) x11 x12).1) 1)
                     (a62l0 x0 x1 x2 x3 x4 x5 x6 x7 x8 x9 x10 x11 x12 (1, ((ih (IntKind.i64.wrap (x0 + 1)) x1 x2 x3 x4 x5 x6 x7 x8 x9 (((x10.set (Int.toNat (IntKind.i64.wrap (((x10.length : Nat) : Int) - 3))) [(((c31.1) : Nat) : Int), (((c31.2) : Nat) : Int)]).drop 0).take (Int.toNat (IntKind.i64.wrap (((x10.length : Nat) : Int) - 2)))) x11 x12).2.1), []))
                     (cond (Nat.beq ((ih (IntKind.i64.wrap (x0 + 1)) x1 x2 x3 x4 x5 x6 x7 x8 x9 (((x10.set (Int.toNat (IntKind.i64.wrap (((x10.length : Nat) : Int) - 3))) [(((c31.1) : Nat) : Int), (((c31.2) : Nat) : Int)]).drop 0).take (Int.toNat (IntKind.i64.wrap (((x10.length : Nat) : Int) - 2)))) x11 x12).1) 2)
                      (a62l0 x0 x1 x2 x3 x4 x5 x6 x7 x8 x9 x10 x11 x12 (0, [], []))
                      none)))
                   none)
                  none)
                 none)
                none)
               none)
              none)
             none)
            none)
           none)
          none)
         (cond (Nat.blt (Int.toNat x0) x12.length)
          (cond ((decide ((0 : Int) ≤ (IntKind.i64.wrap (((x10.length : Nat) : Int) - 2)))) && (Nat.blt (Int.toNat (IntKind.i64.wrap (((x10.length : Nat) : Int) - 2))) x10.length))
           (cond (Nat.blt (Int.toNat (IntKind.i64.wrap (((x10.length : Nat) : Int) - 2))) x10.length)
            (cond ((decide ((0 : Int) ≤ (IntKind.i64.wrap (((x10.length : Nat) : Int) - 1)))) && (Nat.blt (Int.toNat (IntKind.i64.wrap (((x10.length : Nat) : Int) - 1))) x10.length))
             (cond (Nat.blt (Int.toNat (IntKind.i64.wrap (((x10.length : Nat) : Int) - 1))) x10.length)
              (cond (Nat.beq (c32.1) 0)
               (cond ((decide ((0 : Int) ≤ (IntKind.i64.wrap (((x10.length : Nat) : Int) - 2)))) && (Nat.blt (Int.toNat (IntKind.i64.wrap (((x10.length : Nat) : Int) - 2))) x10.length))
                (cond (Nat.blt (Int.toNat (IntKind.i64.wrap (((x10.length : Nat) : Int) - 2))) x10.length)
                 (cond ((Nat.blt 0 ((x10.set (Int.toNat (IntKind.i64.wrap (((x10.length : Nat) : Int) - 2))) [(((c32.2.1) : Nat) : Int), (((c32.2.2) : Nat) : Int)]).length)) && (((decide ((0 : Int) ≤ (IntKind.i64.wrap (((x10.length : Nat) : Int) - 1)))) && (Nat.ble 0 (Int.toNat (IntKind.i64.wrap (((x10.length : Nat) : Int) - 1))))) && (Nat.ble (Int.toNat (IntKind.i64.wrap (((x10.length : Nat) : Int) - 1))) ((x10.set (Int.toNat (IntKind.i64.wrap (((x10.length : Nat) : Int) - 2))) [(((c32.2.1) : Nat) : Int), (((c32.2.2) : Nat) : Int)]).length))))
                  (cond (Nat.ble (Int.toNat (IntKind.i64.wrap (((x10.length : Nat) : Int) - 1))) ((x10.set (Int.toNat (IntKind.i64.wrap (((x10.length : Nat) : Int) - 2))) [(((c32.2.1) : Nat) : Int), (((c32.2.2) : Nat) : Int)]).length))
                   (cond (Nat.beq ((ih (IntKind.i64.wrap (x0 + 1)) x1 x2 x3 x4 x5 x6 x7 x8 x9 (((x10.set (Int.toNat (IntKind.i64.wrap (((x10.length : Nat) : Int) - 2))) [(((c32.2.1) : Nat) : Int), (((c32.2.2) : Nat) : Int)]).drop 0).take (Int.toNat (IntKind.i64.wrap (((x10.length : Nat) : Int) - 1)))) x11 x12).1) 0)
                    (a62l0 x0 x1 x2 x3 x4 x5 x6 x7 x8 x9 x10 x11 x12 (0, [], []))
                    (cond (Nat.beq ((ih (IntKind.i64.wrap (x0 + 1)) x1 x2 x3 x4 x5 x6 x7 x8 x9 (((x10.set (Int.toNat (IntKind.i64.wrap (((x10.length : Nat) : Int) - 2))) [(((c32.2.1) : Nat) : Int), (((c32.2.2) : Nat) : Int)]).drop 0).take (Int.toNat (IntKind.i64.wrap (((x10.length : Nat) : Int) - 1)))) x11 x12).1) 1)
                     (a62l0 x0 x1 x2 x3 x4 x5 x6 x7 x8 x9 x10 x11 x12 (1, ((ih (IntKind.i64.wrap (x0 + 1)) x1 x2 x3 x4 x5 x6 x7 x8 x9 (((x10.set (Int.toNat (IntKind.i64.wrap (((x10.length : Nat) : Int) - 2))) [(((c32.2.1) : Nat) : Int), (((c32.2.2) : Nat) : Int)]).drop 0).take (Int.toNat (IntKind.i64.wrap (((x10.length : Nat) : Int) - 1)))) x11 x12).2.1), []))
                     (cond (Nat.beq ((ih (IntKind.i64.wrap (x0 + 1)) x1 x2 x3 x4 x5 x6 x7 x8 x9 (((x10.set (Int.toNat (IntKind.i64.wrap (((x10.length : Nat) : Int) - 2))) [(((c32.2.1) : Nat) : Int), (((c32.2.2) : Nat) : Int)]).drop 0).take (Int.toNat (IntKind.i64.wrap (((x10.length : Nat) : Int) - 1)))) x11 x12).1) 2)
                      (a62l0 x0 x1 x2 x3 x4 x5 x6 x7 x8 x9 x10 x11 x12 (0, [], []))
                      none)))
                   none)
                  none)
                 none)
                none)
               none)
              none)
             none)
            none)
           none)
          none)))))))
   none)
  none)
 (a62l0 x0 x1 x2 x3 x4 x5 x6 x7 x8 x9 x10 x11 x12 (2, [], x10)))
set_option maxRecDepth 100000 in
set_option maxHeartbeats 4000000 in
theorem e62l0 (m : Nat) (x0 : Int) (x1 x2 x3 x4 x5 x6 x7 x8 : Nat) (x9 x10 : List (List Int)) (x11 : List ByteArray) (x12 : List (List Int)) : evC Try.prog ext T33 noL 200 (loopN Try.f62 0) (loopTail ([0, 3, 5, 6, 7], [6]) [5] [2, 3] (sumK 155 [0, 3, 5, 6, 7] [5] (q62l0 m))) (frameOf 155 [0, 3, 5, 6, 7] [.pointer (some ⟨0, 0, some 0⟩), .pointer (some ⟨1, 0, some 0⟩), wsl 2, wsl 3, .int .i64 x0]) ⟨[⟨true, (some (.cells [wsl 4, wsl 5]))⟩, ⟨true, (some (.cells [.float .f32 x1, .float .f32 x2, .float .f32 x3, .float .f32 x4, .float .f32 x5, .float .f32 x6, .float .f32 x7, .float .f32 x8]))⟩, ⟨true, (some (.tab [.fl .f32, .fl .f32] x9))⟩, ⟨true, (some (.tab [.fl .f32, .fl .f32] x10))⟩, ⟨true, (some (.strs x11))⟩, ⟨true, (some (.tab [.int .i8, .int .i16, .fl .f32] x12))⟩], 6, []⟩ = firstT ([((Nat.beq ((r62l0 (m + 1) x0 x1 x2 x3 x4 x5 x6 x7 x8 x9 x10 x11 x12).1) 0), .exit 0, [wsl 2], ⟨[⟨true, (some (.cells [wsl 4, wsl 5]))⟩, ⟨true, (some (.cells [.float .f32 x1, .float .f32 x2, .float .f32 x3, .float .f32 x4, .float .f32 x5, .float .f32 x6, .float .f32 x7, .float .f32 x8]))⟩, ⟨true, (some (.tab [.fl .f32, .fl .f32] x9))⟩, ⟨true, none⟩, ⟨true, (some (.strs x11))⟩, ⟨true, (some (.tab [.int .i8, .int .i16, .fl .f32] x12))⟩], 6, [2, 3]⟩), ((Nat.beq ((r62l0 (m + 1) x0 x1 x2 x3 x4 x5 x6 x7 x8 x9 x10 x11 x12).1) 1), .exit 0, [wsl 6], ⟨[⟨true, (some (.cells [wsl 4, wsl 5]))⟩, ⟨true, (some (.cells [.float .f32 x1, .float .f32 x2, .float .f32 x3, .float .f32 x4, .float .f32 x5, .float .f32 x6, .float .f32 x7, .float .f32 x8]))⟩, ⟨true, none⟩, ⟨true, none⟩, ⟨true, (some (.strs x11))⟩, ⟨true, (some (.tab [.int .i8, .int .i16, .fl .f32] x12))⟩, ⟨true, (some (.tab [.fl .f32, .fl .f32] ((r62l0 (m + 1) x0 x1 x2 x3 x4 x5 x6 x7 x8 x9 x10 x11 x12).2.1)))⟩], 6, [2, 3]⟩), ((Nat.beq ((r62l0 (m + 1) x0 x1 x2 x3 x4 x5 x6 x7 x8 x9 x10 x11 x12).1) 2), .exit 0, [wsl 2], ⟨[⟨true, (some (.cells [wsl 4, wsl 5]))⟩, ⟨true, (some (.cells [.float .f32 x1, .float .f32 x2, .float .f32 x3, .float .f32 x4, .float .f32 x5, .float .f32 x6, .float .f32 x7, .float .f32 x8]))⟩, ⟨true, (some (.tab [.fl .f32, .fl .f32] x9))⟩, ⟨true, (some (.tab [.fl .f32, .fl .f32] ((r62l0 (m + 1) x0 x1 x2 x3 x4 x5 x6 x7 x8 x9 x10 x11 x12).2.2)))⟩, ⟨true, (some (.strs x11))⟩, ⟨true, (some (.tab [.int .i8, .int .i16, .fl .f32] x12))⟩], 6, [2, 3]⟩)].map fun (b, x) => (b, (x.1, frameOf 155 [5] x.2.1, x.2.2))) :=
 (show evC Try.prog ext T33 noL 200 (loopN Try.f62 0) (loopTail ([0, 3, 5, 6, 7], [6]) [5] [2, 3] (sumK 155 [0, 3, 5, 6, 7] [5] (q62l0 m))) (frameOf 155 [0, 3, 5, 6, 7] [.pointer (some ⟨0, 0, some 0⟩), .pointer (some ⟨1, 0, some 0⟩), wsl 2, wsl 3, .int .i64 x0]) ⟨[⟨true, (some (.cells [wsl 4, wsl 5]))⟩, ⟨true, (some (.cells [.float .f32 x1, .float .f32 x2, .float .f32 x3, .float .f32 x4, .float .f32 x5, .float .f32 x6, .float .f32 x7, .float .f32 x8]))⟩, ⟨true, (some (.tab [.fl .f32, .fl .f32] x9))⟩, ⟨true, (some (.tab [.fl .f32, .fl .f32] x10))⟩, ⟨true, (some (.strs x11))⟩, ⟨true, (some (.tab [.int .i8, .int .i16, .fl .f32] x12))⟩], 6, []⟩ = w62l0 (r62l0 m) x0 x1 x2 x3 x4 x5 x6 x7 x8 x9 x10 x11 x12 from by kernel_rfl).trans
 (show w62l0 (r62l0 m) x0 x1 x2 x3 x4 x5 x6 x7 x8 x9 x10 x11 x12 = a62l0 x0 x1 x2 x3 x4 x5 x6 x7 x8 x9 x10 x11 x12 (r62l0 (m + 1) x0 x1 x2 x3 x4 x5 x6 x7 x8 x9 x10 x11 x12) from by unfold w62l0; show _ = a62l0 x0 x1 x2 x3 x4 x5 x6 x7 x8 x9 x10 x11 x12 (b62l0 (r62l0 m) x0 x1 x2 x3 x4 x5 x6 x7 x8 x9 x10 x11 x12); unfold b62l0; exact (cond_both (a62l0 x0 x1 x2 x3 x4 x5 x6 x7 x8 x9 x10 x11 x12) _ (fun h0 => (cond_both (a62l0 x0 x1 x2 x3 x4 x5 x6 x7 x8 x9 x10 x11 x12) _ (fun h1 => (cond_t (ev_and2 h1) (cond_both (a62l0 x0 x1 x2 x3 x4 x5 x6 x7 x8 x9 x10 x11 x12) _ (fun h2 => (cond_t (ev_and2 h1) (cond_t (ev_and2 h1) (cond_app (a62l0 x0 x1 x2 x3 x4 x5 x6 x7 x8 x9 x10 x11 x12) _ (cond_app (a62l0 x0 x1 x2 x3 x4 x5 x6 x7 x8 x9 x10 x11 x12) _ rfl (cond_app (a62l0 x0 x1 x2 x3 x4 x5 x6 x7 x8 x9 x10 x11 x12) _ rfl (cond_app (a62l0 x0 x1 x2 x3 x4 x5 x6 x7 x8 x9 x10 x11 x12) _ rfl rfl))) rfl)))) (fun h2 => (cond_both (a62l0 x0 x1 x2 x3 x4 x5 x6 x7 x8 x9 x10 x11 x12) _ (fun h3 => (cond_t (ev_and2 h1) (cond_app (a62l0 x0 x1 x2 x3 x4 x5 x6 x7 x8 x9 x10 x11 x12) _ (cond_app (a62l0 x0 x1 x2 x3 x4 x5 x6 x7 x8 x9 x10 x11 x12) _ (cond_app (a62l0 x0 x1 x2 x3 x4 x5 x6 x7 x8 x9 x10 x11 x12) _ (cond_app (a62l0 x0 x1 x2 x3 x4 x5 x6 x7 x8 x9 x10 x11 x12) _ rfl (cond_app (a62l0 x0 x1 x2 x3 x4 x5 x6 x7 x8 x9 x10 x11 x12) _ rfl (cond_app (a62l0 x0 x1 x2 x3 x4 x5 x6 x7 x8 x9 x10 x11 x12) _ rfl rfl))) rfl) (cond_app (a62l0 x0 x1 x2 x3 x4 x5 x6 x7 x8 x9 x10 x11 x12) _ (cond_app (a62l0 x0 x1 x2 x3 x4 x5 x6 x7 x8 x9 x10 x11 x12) _ (cond_app (a62l0 x0 x1 x2 x3 x4 x5 x6 x7 x8 x9 x10 x11 x12) _ rfl (cond_app (a62l0 x0 x1 x2 x3 x4 x5 x6 x7 x8 x9 x10 x11 x12) _ rfl (cond_app (a62l0 x0 x1 x2 x3 x4 x5 x6 x7 x8 x9 x10 x11 x12) _ rfl rfl))) rfl) (cond_app (a62l0 x0 x1 x2 x3 x4 x5 x6 x7 x8 x9 x10 x11 x12) _ (cond_app (a62l0 x0 x1 x2 x3 x4 x5 x6 x7 x8 x9 x10 x11 x12) _ (cond_app (a62l0 x0 x1 x2 x3 x4 x5 x6 x7 x8 x9 x10 x11 x12) _ rfl (cond_app (a62l0 x0 x1 x2 x3 x4 x5 x6 x7 x8 x9 x10 x11 x12) _ rfl (cond_app (a62l0 x0 x1 x2 x3 x4 x5 x6 x7 x8 x9 x10 x11 x12) _ rfl rfl))) rfl) (cond_app (a62l0 x0 x1 x2 x3 x4 x5 x6 x7 x8 x9 x10 x11 x12) _ (cond_app (a62l0 x0 x1 x2 x3 x4 x5 x6 x7 x8 x9 x10 x11 x12) _ (cond_app (a62l0 x0 x1 x2 x3 x4 x5 x6 x7 x8 x9 x10 x11 x12) _ rfl (cond_app (a62l0 x0 x1 x2 x3 x4 x5 x6 x7 x8 x9 x10 x11 x12) _ rfl (cond_app (a62l0 x0 x1 x2 x3 x4 x5 x6 x7 x8 x9 x10 x11 x12) _ rfl rfl))) rfl) (cond_app (a62l0 x0 x1 x2 x3 x4 x5 x6 x7 x8 x9 x10 x11 x12) _ (cond_app (a62l0 x0 x1 x2 x3 x4 x5 x6 x7 x8 x9 x10 x11 x12) _ (cond_app (a62l0 x0 x1 x2 x3 x4 x5 x6 x7 x8 x9 x10 x11 x12) _ rfl (cond_app (a62l0 x0 x1 x2 x3 x4 x5 x6 x7 x8 x9 x10 x11 x12) _ rfl (cond_app (a62l0 x0 x1 x2 x3 x4 x5 x6 x7 x8 x9 x10 x11 x12) _ rfl rfl))) rfl) (cond_app (a62l0 x0 x1 x2 x3 x4 x5 x6 x7 x8 x9 x10 x11 x12) _ (cond_app (a62l0 x0 x1 x2 x3 x4 x5 x6 x7 x8 x9 x10 x11 x12) _ (cond_app (a62l0 x0 x1 x2 x3 x4 x5 x6 x7 x8 x9 x10 x11 x12) _ rfl (cond_app (a62l0 x0 x1 x2 x3 x4 x5 x6 x7 x8 x9 x10 x11 x12) _ rfl (cond_app (a62l0 x0 x1 x2 x3 x4 x5 x6 x7 x8 x9 x10 x11 x12) _ rfl rfl))) rfl) (cond_app (a62l0 x0 x1 x2 x3 x4 x5 x6 x7 x8 x9 x10 x11 x12) _ (cond_app (a62l0 x0 x1 x2 x3 x4 x5 x6 x7 x8 x9 x10 x11 x12) _ (cond_app (a62l0 x0 x1 x2 x3 x4 x5 x6 x7 x8 x9 x10 x11 x12) _ rfl (cond_app (a62l0 x0 x1 x2 x3 x4 x5 x6 x7 x8 x9 x10 x11 x12) _ rfl (cond_app (a62l0 x0 x1 x2 x3 x4 x5 x6 x7 x8 x9 x10 x11 x12) _ rfl rfl))) rfl) rfl))))))) rfl))) (fun h3 => (cond_both (a62l0 x0 x1 x2 x3 x4 x5 x6 x7 x8 x9 x10 x11 x12) _ (fun h4 => (cond_t (ev_and2 h1) (cond_both (a62l0 x0 x1 x2 x3 x4 x5 x6 x7 x8 x9 x10 x11 x12) _ (fun h5 => (cond_t (ev_and2 h5) (cond_app (a62l0 x0 x1 x2 x3 x4 x5 x6 x7 x8 x9 x10 x11 x12) _ (cond_app (a62l0 x0 x1 x2 x3 x4 x5 x6 x7 x8 x9 x10 x11 x12) _ rfl (cond_app (a62l0 x0 x1 x2 x3 x4 x5 x6 x7 x8 x9 x10 x11 x12) _ rfl (cond_app (a62l0 x0 x1 x2 x3 x4 x5 x6 x7 x8 x9 x10 x11 x12) _ rfl rfl))) rfl))) (fun h5 => rfl)))) (fun h4 => (cond_both (a62l0 x0 x1 x2 x3 x4 x5 x6 x7 x8 x9 x10 x11 x12) _ (fun h5 => (cond_both (a62l0 x0 x1 x2 x3 x4 x5 x6 x7 x8 x9 x10 x11 x12) _ (fun h6 => (cond_t (ev_and2 h6) (cond_both (a62l0 x0 x1 x2 x3 x4 x5 x6 x7 x8 x9 x10 x11 x12) _ (fun h7 => (cond_both (a62l0 x0 x1 x2 x3 x4 x5 x6 x7 x8 x9 x10 x11 x12) _ (fun h8 => (cond_t (ev_and2 (ev_and2 h8)) (cond_app (a62l0 x0 x1 x2 x3 x4 x5 x6 x7 x8 x9 x10 x11 x12) _ rfl (cond_app (a62l0 x0 x1 x2 x3 x4 x5 x6 x7 x8 x9 x10 x11 x12) _ rfl (cond_app (a62l0 x0 x1 x2 x3 x4 x5 x6 x7 x8 x9 x10 x11 x12) _ rfl rfl))))) (fun h8 => rfl))) (fun h7 => rfl)))) (fun h6 => rfl))) (fun h5 => (cond_both (a62l0 x0 x1 x2 x3 x4 x5 x6 x7 x8 x9 x10 x11 x12) _ (fun h6 => (cond_both (a62l0 x0 x1 x2 x3 x4 x5 x6 x7 x8 x9 x10 x11 x12) _ (fun h7 => (cond_t (ev_and2 h7) (cond_t h7 (cond_t (ev_and2 h7) (cond_t h7 (cond_t (ev_and2 h7) (v62l0 x0 x1 x2 x3 x4 x5 x6 x7 x8 x9 x10 x11 x12 ((r62l0 m) (IntKind.i64.wrap (x0 + 1)) x1 x2 x3 x4 x5 x6 x7 x8 x9 (x10.set (Int.toNat (IntKind.i64.wrap (((x10.length : Nat) : Int) - 1))) [(((fneg .f32 (Int.toNat ((x10.getD (Int.toNat (IntKind.i64.wrap (((x10.length : Nat) : Int) - 1))) []).getD 1 0))) : Nat) : Int), (((fneg .f32 (Int.toNat ((x10.getD (Int.toNat (IntKind.i64.wrap (((x10.length : Nat) : Int) - 1))) []).getD 0 0))) : Nat) : Int)]) x11 x12)))))))) (fun h7 => rfl))) (fun h6 => (cond_both (a62l0 x0 x1 x2 x3 x4 x5 x6 x7 x8 x9 x10 x11 x12) _ (fun h7 => (cond_both (a62l0 x0 x1 x2 x3 x4 x5 x6 x7 x8 x9 x10 x11 x12) _ (fun h8 => (cond_t (ev_and2 h8) (cond_both (a62l0 x0 x1 x2 x3 x4 x5 x6 x7 x8 x9 x10 x11 x12) _ (fun h9 => (cond_t (ev_and2 h9) (cond_both (a62l0 x0 x1 x2 x3 x4 x5 x6 x7 x8 x9 x10 x11 x12) _ (fun h10 => (cond_t (ev_and2 h10) (cond_t h8 (cond_t (ev_and2 h8) (cond_both (a62l0 x0 x1 x2 x3 x4 x5 x6 x7 x8 x9 x10 x11 x12) _ (fun h11 => (cond_t (ev_and2 (ev_and2 h11)) (cond_app (a62l0 x0 x1 x2 x3 x4 x5 x6 x7 x8 x9 x10 x11 x12) _ rfl (cond_app (a62l0 x0 x1 x2 x3 x4 x5 x6 x7 x8 x9 x10 x11 x12) _ rfl (cond_app (a62l0 x0 x1 x2 x3 x4 x5 x6 x7 x8 x9 x10 x11 x12) _ rfl rfl))))) (fun h11 => rfl)))))) (fun h10 => rfl)))) (fun h9 => rfl)))) (fun h8 => rfl))) (fun h7 => (cond_t (ev_and2 h1) (cond_both (a62l0 x0 x1 x2 x3 x4 x5 x6 x7 x8 x9 x10 x11 x12) _ (fun h8 => (cond_t (ev_and2 h8) (cond_both (a62l0 x0 x1 x2 x3 x4 x5 x6 x7 x8 x9 x10 x11 x12) _ (fun h9 => (cond_t (ev_and2 h9) (cond_both (a62l0 x0 x1 x2 x3 x4 x5 x6 x7 x8 x9 x10 x11 x12) _ (fun h10 => (cond_t h8 (cond_t (ev_and2 h8) (cond_both (a62l0 x0 x1 x2 x3 x4 x5 x6 x7 x8 x9 x10 x11 x12) _ (fun h11 => (cond_t (ev_and2 (ev_and2 h11)) (cond_app (a62l0 x0 x1 x2 x3 x4 x5 x6 x7 x8 x9 x10 x11 x12) _ rfl (cond_app (a62l0 x0 x1 x2 x3 x4 x5 x6 x7 x8 x9 x10 x11 x12) _ rfl (cond_app (a62l0 x0 x1 x2 x3 x4 x5 x6 x7 x8 x9 x10 x11 x12) _ rfl rfl))))) (fun h11 => rfl))))) (fun h10 => rfl)))) (fun h9 => rfl)))) (fun h8 => rfl))))))))))))))))) (fun h1 => rfl))) (fun h0 => rfl)))
set_option maxRecDepth 100000 in
set_option maxHeartbeats 4000000 in
theorem qm62l0 : ∀ m, SumKOk Try.prog (loopN Try.f62 0) 155 [0, 3, 5, 6, 7] [5] (q62l0 m) := by
  intro m
  induction m with
  | zero =>
    intro vals s x h1 h2 h3
    unfold q62l0 at h3; split at h3
    · rename_i h; split at h3
      · rename_i hc; obtain ⟨rfl, rfl, rfl, rfl, rfl, rfl, rfl, rfl, rfl, rfl⟩ := hc; exact absurd h3 (by simp [r62l0, firstT, Nat.beq])
      · exact noQ_ok _ _ _ h1 h2 h3
    · exact noQ_ok _ _ _ h1 h2 h3
  | succ m ih =>
    intro vals s x h1 h2 h3
    unfold q62l0 at h3; split at h3
    · rename_i h; split at h3
      · rename_i hc; obtain ⟨rfl, rfl, rfl, rfl, rfl, rfl, rfl, rfl, rfl, rfl⟩ := hc; exact sum_step ok33 extOk mixed ((lfOkF_no _ _).inner (by kernel_rfl)) ih h1 h2 h (e62l0 m _ _ _ _ _ _ _ _ _ _ _ _ _) rfl h3
      · exact noQ_ok _ _ _ h1 h2 h3
    · exact noQ_ok _ _ _ h1 h2 h3
noncomputable def Q62l0 : SumK := fun vals s => q62l0 (fuelOf vals s.h) vals s
theorem qok62l0 : SumKOk Try.prog (loopN Try.f62 0) 155 [0, 3, 5, 6, 7] [5] Q62l0 := fuel_ok qm62l0 fuelOf
noncomputable def L62_1 : LoopT := addL noL 5 ([0, 3, 5, 6, 7], [6]) (sumK 155 [0, 3, 5, 6, 7] [5] Q62l0)
theorem lok62_1 : LfOkF Try.prog L62_1 Try.f62 := lfOkF_add (lfOkF_no _ _) qok62l0 (by kernel_rfl) (by kernel_rfl) (by kernel_rfl)
end Go.Proofs.Ytfclciebpnnieaa
