/- What the functions that the statements reach answer, part 2. -/
import Derived.Test.YtgkmmkimpmnpkaaSp1
namespace Go.Proofs.Ytgkmmkimpmnpkaa
open Go.Ab
set_option maxHeartbeats 4000000
set_option maxRecDepth 100000

/-- spec.l05Mul, loop 0 -/
noncomputable def r36l0c (x0 x1 x2 x3 x4 x5 x6 x7 : Nat) : Nat × Nat × Nat × Nat × Nat × Nat × Nat :=
 cond (!feq .f32 x6 x6)
  (cond (narrowOk (r44 (-1)))
   (cond (narrowOk (r44 1))
    (0, x0, x1, (narrow (r44 (-1))), (narrow (r44 1)), 0, 0)
    (2, 0, 0, 0, 0, 0, 0))
   (2, 0, 0, 0, 0, 0, 0))
  (cond (flt .f32 x6 x0)
   (cond (fgt .f32 x6 x1)
    (cond (Nat.beq ((r36l0b x6 x6 x2 x3 x4 x5 x6 x7).1) 0)
     (0, x6, x6, ((r36l0b x6 x6 x2 x3 x4 x5 x6 x7).2.1), ((r36l0b x6 x6 x2 x3 x4 x5 x6 x7).2.2.1), 0, 0)
     (cond (Nat.beq ((r36l0b x6 x6 x2 x3 x4 x5 x6 x7).1) 1)
      (1, 0, 0, 0, 0, ((r36l0b x6 x6 x2 x3 x4 x5 x6 x7).2.2.2.1), ((r36l0b x6 x6 x2 x3 x4 x5 x6 x7).2.2.2.2))
      (2, 0, 0, 0, 0, 0, 0)))
    (cond (Nat.beq ((r36l0b x6 x1 x2 x3 x4 x5 x6 x7).1) 0)
     (0, x6, x1, ((r36l0b x6 x1 x2 x3 x4 x5 x6 x7).2.1), ((r36l0b x6 x1 x2 x3 x4 x5 x6 x7).2.2.1), 0, 0)
     (cond (Nat.beq ((r36l0b x6 x1 x2 x3 x4 x5 x6 x7).1) 1)
      (1, 0, 0, 0, 0, ((r36l0b x6 x1 x2 x3 x4 x5 x6 x7).2.2.2.1), ((r36l0b x6 x1 x2 x3 x4 x5 x6 x7).2.2.2.2))
      (2, 0, 0, 0, 0, 0, 0))))
   (cond (fgt .f32 x6 x1)
    (cond (Nat.beq ((r36l0b x0 x6 x2 x3 x4 x5 x6 x7).1) 0)
     (0, x0, x6, ((r36l0b x0 x6 x2 x3 x4 x5 x6 x7).2.1), ((r36l0b x0 x6 x2 x3 x4 x5 x6 x7).2.2.1), 0, 0)
     (cond (Nat.beq ((r36l0b x0 x6 x2 x3 x4 x5 x6 x7).1) 1)
      (1, 0, 0, 0, 0, ((r36l0b x0 x6 x2 x3 x4 x5 x6 x7).2.2.2.1), ((r36l0b x0 x6 x2 x3 x4 x5 x6 x7).2.2.2.2))
      (2, 0, 0, 0, 0, 0, 0)))
    (cond (Nat.beq ((r36l0b x0 x1 x2 x3 x4 x5 x6 x7).1) 0)
     (0, x0, x1, ((r36l0b x0 x1 x2 x3 x4 x5 x6 x7).2.1), ((r36l0b x0 x1 x2 x3 x4 x5 x6 x7).2.2.1), 0, 0)
     (cond (Nat.beq ((r36l0b x0 x1 x2 x3 x4 x5 x6 x7).1) 1)
      (1, 0, 0, 0, 0, ((r36l0b x0 x1 x2 x3 x4 x5 x6 x7).2.2.2.1), ((r36l0b x0 x1 x2 x3 x4 x5 x6 x7).2.2.2.2))
      (2, 0, 0, 0, 0, 0, 0)))))
noncomputable def a36l0c (x0 x1 x2 x3 x4 x5 x6 x7 : Nat) (p : Nat × Nat × Nat × Nat × Nat × Nat × Nat) : Option (Fin' × List Value × St) := firstT ([((Nat.beq (p.1) 0), .ret, [.pointer (some ⟨0, 0, some 0⟩), .float .f32 (p.2.1), .float .f32 (p.2.2.1)], ⟨[⟨true, (some (.cells [.float .f32 (p.2.2.2.1), .float .f32 (p.2.2.2.2.1)]))⟩, ⟨true, (some (.cells [.float .f32 x4, .float .f32 x5, .float .f32 x6, .float .f32 x7]))⟩], 2, [0]⟩), ((Nat.beq (p.1) 1), .exit 0, [.pointer (some ⟨0, 0, some 0⟩), .float .f32 (p.2.2.2.2.2.1), .float .f32 (p.2.2.2.2.2.2)], ⟨[⟨true, (some (.cells [.float .f32 x2, .float .f32 x3]))⟩, ⟨true, (some (.cells [.float .f32 x4, .float .f32 x5, .float .f32 x6, .float .f32 x7]))⟩], 2, [0]⟩)].map fun (b, x) => (b, (x.1, frameOf 63 [4, 6, 7] x.2.1, x.2.2)))
noncomputable def w36l0c (x0 x1 x2 x3 x4 x5 x6 x7 : Nat) : Option (Fin' × List Value × St) :=
 (cond (!feq .f32 x6 x6)
 (cond (narrowOk (r44 (-1)))
  (cond (narrowOk (r44 1))
   (a36l0c x0 x1 x2 x3 x4 x5 x6 x7 (0, x0, x1, (narrow (r44 (-1))), (narrow (r44 1)), 0, 0))
   none)
  none)
 (cond (flt .f32 x6 x0)
  (cond (fgt .f32 x6 x1)
   (cond (Nat.beq ((r36l0b x6 x6 x2 x3 x4 x5 x6 x7).1) 0)
    (a36l0c x0 x1 x2 x3 x4 x5 x6 x7 (0, x6, x6, ((r36l0b x6 x6 x2 x3 x4 x5 x6 x7).2.1), ((r36l0b x6 x6 x2 x3 x4 x5 x6 x7).2.2.1), 0, 0))
    (cond (Nat.beq ((r36l0b x6 x6 x2 x3 x4 x5 x6 x7).1) 1)
     (a36l0c x0 x1 x2 x3 x4 x5 x6 x7 (1, 0, 0, 0, 0, ((r36l0b x6 x6 x2 x3 x4 x5 x6 x7).2.2.2.1), ((r36l0b x6 x6 x2 x3 x4 x5 x6 x7).2.2.2.2)))
     none))
   (cond (Nat.beq ((r36l0b x6 x1 x2 x3 x4 x5 x6 x7).1) 0)
    (a36l0c x0 x1 x2 x3 x4 x5 x6 x7 (0, x6, x1, ((r36l0b x6 x1 x2 x3 x4 x5 x6 x7).2.1), ((r36l0b x6 x1 x2 x3 x4 x5 x6 x7).2.2.1), 0, 0))
    (cond (Nat.beq ((r36l0b x6 x1 x2 x3 x4 x5 x6 x7).1) 1)
     (a36l0c x0 x1 x2 x3 x4 x5 x6 x7 (1, 0, 0, 0, 0, ((r36l0b x6 x1 x2 x3 x4 x5 x6 x7).2.2.2.1), ((r36l0b x6 x1 x2 x3 x4 x5 x6 x7).2.2.2.2)))
     none)))
  (cond (fgt .f32 x6 x1)
   (cond (Nat.beq ((r36l0b x0 x6 x2 x3 x4 x5 x6 x7).1) 0)
    (a36l0c x0 x1 x2 x3 x4 x5 x6 x7 (0, x0, x6, ((r36l0b x0 x6 x2 x3 x4 x5 x6 x7).2.1), ((r36l0b x0 x6 x2 x3 x4 x5 x6 x7).2.2.1), 0, 0))
    (cond (Nat.beq ((r36l0b x0 x6 x2 x3 x4 x5 x6 x7).1) 1)
     (a36l0c x0 x1 x2 x3 x4 x5 x6 x7 (1, 0, 0, 0, 0, ((r36l0b x0 x6 x2 x3 x4 x5 x6 x7).2.2.2.1), ((r36l0b x0 x6 x2 x3 x4 x5 x6 x7).2.2.2.2)))
     none))
   (cond (Nat.beq ((r36l0b x0 x1 x2 x3 x4 x5 x6 x7).1) 0)
    (a36l0c x0 x1 x2 x3 x4 x5 x6 x7 (0, x0, x1, ((r36l0b x0 x1 x2 x3 x4 x5 x6 x7).2.1), ((r36l0b x0 x1 x2 x3 x4 x5 x6 x7).2.2.1), 0, 0))
    (cond (Nat.beq ((r36l0b x0 x1 x2 x3 x4 x5 x6 x7).1) 1)
     (a36l0c x0 x1 x2 x3 x4 x5 x6 x7 (1, 0, 0, 0, 0, ((r36l0b x0 x1 x2 x3 x4 x5 x6 x7).2.2.2.1), ((r36l0b x0 x1 x2 x3 x4 x5 x6 x7).2.2.2.2)))
     none)))))
set_option maxRecDepth 100000 in
set_option maxHeartbeats 4000000 in
theorem e36l0c (x0 x1 x2 x3 x4 x5 x6 x7 : Nat) : evC Try.prog ext T45 L36_2 200 (loopN Try.f36 0) (loopTail ([4, 5, 6, 7, 8], []) [4, 6, 7] [] (sumK 63 [4, 5, 6, 7, 8] [4, 6, 7] Q36l0b)) (frameOf 63 [4, 5, 6, 7, 8] [.pointer (some ⟨0, 0, some 0⟩), .pointer (some ⟨1, 0, some 0⟩), .float .f32 x0, .float .f32 x1, .int .i64 2]) ⟨[⟨true, (some (.cells [.float .f32 x2, .float .f32 x3]))⟩, ⟨true, (some (.cells [.float .f32 x4, .float .f32 x5, .float .f32 x6, .float .f32 x7]))⟩], 2, []⟩ = firstT ([((Nat.beq ((r36l0c x0 x1 x2 x3 x4 x5 x6 x7).1) 0), .ret, [.pointer (some ⟨0, 0, some 0⟩), .float .f32 ((r36l0c x0 x1 x2 x3 x4 x5 x6 x7).2.1), .float .f32 ((r36l0c x0 x1 x2 x3 x4 x5 x6 x7).2.2.1)], ⟨[⟨true, (some (.cells [.float .f32 ((r36l0c x0 x1 x2 x3 x4 x5 x6 x7).2.2.2.1), .float .f32 ((r36l0c x0 x1 x2 x3 x4 x5 x6 x7).2.2.2.2.1)]))⟩, ⟨true, (some (.cells [.float .f32 x4, .float .f32 x5, .float .f32 x6, .float .f32 x7]))⟩], 2, [0]⟩), ((Nat.beq ((r36l0c x0 x1 x2 x3 x4 x5 x6 x7).1) 1), .exit 0, [.pointer (some ⟨0, 0, some 0⟩), .float .f32 ((r36l0c x0 x1 x2 x3 x4 x5 x6 x7).2.2.2.2.2.1), .float .f32 ((r36l0c x0 x1 x2 x3 x4 x5 x6 x7).2.2.2.2.2.2)], ⟨[⟨true, (some (.cells [.float .f32 x2, .float .f32 x3]))⟩, ⟨true, (some (.cells [.float .f32 x4, .float .f32 x5, .float .f32 x6, .float .f32 x7]))⟩], 2, [0]⟩)].map fun (b, x) => (b, (x.1, frameOf 63 [4, 6, 7] x.2.1, x.2.2))) :=
 (show evC Try.prog ext T45 L36_2 200 (loopN Try.f36 0) (loopTail ([4, 5, 6, 7, 8], []) [4, 6, 7] [] (sumK 63 [4, 5, 6, 7, 8] [4, 6, 7] Q36l0b)) (frameOf 63 [4, 5, 6, 7, 8] [.pointer (some ⟨0, 0, some 0⟩), .pointer (some ⟨1, 0, some 0⟩), .float .f32 x0, .float .f32 x1, .int .i64 2]) ⟨[⟨true, (some (.cells [.float .f32 x2, .float .f32 x3]))⟩, ⟨true, (some (.cells [.float .f32 x4, .float .f32 x5, .float .f32 x6, .float .f32 x7]))⟩], 2, []⟩ = w36l0c x0 x1 x2 x3 x4 x5 x6 x7 from by kernel_rfl).trans
 (show w36l0c x0 x1 x2 x3 x4 x5 x6 x7 = a36l0c x0 x1 x2 x3 x4 x5 x6 x7 (r36l0c x0 x1 x2 x3 x4 x5 x6 x7) from by unfold w36l0c r36l0c; exact (cond_app (a36l0c x0 x1 x2 x3 x4 x5 x6 x7) _ (cond_app (a36l0c x0 x1 x2 x3 x4 x5 x6 x7) _ (cond_app (a36l0c x0 x1 x2 x3 x4 x5 x6 x7) _ rfl rfl) rfl) (cond_app (a36l0c x0 x1 x2 x3 x4 x5 x6 x7) _ (cond_app (a36l0c x0 x1 x2 x3 x4 x5 x6 x7) _ (cond_app (a36l0c x0 x1 x2 x3 x4 x5 x6 x7) _ rfl (cond_app (a36l0c x0 x1 x2 x3 x4 x5 x6 x7) _ rfl rfl)) (cond_app (a36l0c x0 x1 x2 x3 x4 x5 x6 x7) _ rfl (cond_app (a36l0c x0 x1 x2 x3 x4 x5 x6 x7) _ rfl rfl))) (cond_app (a36l0c x0 x1 x2 x3 x4 x5 x6 x7) _ (cond_app (a36l0c x0 x1 x2 x3 x4 x5 x6 x7) _ rfl (cond_app (a36l0c x0 x1 x2 x3 x4 x5 x6 x7) _ rfl rfl)) (cond_app (a36l0c x0 x1 x2 x3 x4 x5 x6 x7) _ rfl (cond_app (a36l0c x0 x1 x2 x3 x4 x5 x6 x7) _ rfl rfl))))))
noncomputable def Q36l0c : SumK := fun vals s =>
 match vals, s.h with
 | [.pointer (some ⟨f0, f1, some f2⟩), .pointer (some ⟨f3, f4, some f5⟩), .float .f32 x0, .float .f32 x1, .int .i64 f6], [⟨true, some (.cells [.float .f32 x2, .float .f32 x3])⟩, ⟨true, some (.cells [.float .f32 x4, .float .f32 x5, .float .f32 x6, .float .f32 x7])⟩] => if f0 = 0 ∧ f1 = 0 ∧ f2 = 0 ∧ f3 = 1 ∧ f4 = 0 ∧ f5 = 0 ∧ f6 = 2 then [((Nat.beq ((r36l0c x0 x1 x2 x3 x4 x5 x6 x7).1) 0), .ret, [.pointer (some ⟨0, 0, some 0⟩), .float .f32 ((r36l0c x0 x1 x2 x3 x4 x5 x6 x7).2.1), .float .f32 ((r36l0c x0 x1 x2 x3 x4 x5 x6 x7).2.2.1)], ⟨[⟨true, (some (.cells [.float .f32 ((r36l0c x0 x1 x2 x3 x4 x5 x6 x7).2.2.2.1), .float .f32 ((r36l0c x0 x1 x2 x3 x4 x5 x6 x7).2.2.2.2.1)]))⟩, ⟨true, (some (.cells [.float .f32 x4, .float .f32 x5, .float .f32 x6, .float .f32 x7]))⟩], 2, [0]⟩), ((Nat.beq ((r36l0c x0 x1 x2 x3 x4 x5 x6 x7).1) 1), .exit 0, [.pointer (some ⟨0, 0, some 0⟩), .float .f32 ((r36l0c x0 x1 x2 x3 x4 x5 x6 x7).2.2.2.2.2.1), .float .f32 ((r36l0c x0 x1 x2 x3 x4 x5 x6 x7).2.2.2.2.2.2)], ⟨[⟨true, (some (.cells [.float .f32 x2, .float .f32 x3]))⟩, ⟨true, (some (.cells [.float .f32 x4, .float .f32 x5, .float .f32 x6, .float .f32 x7]))⟩], 2, [0]⟩)] else Q36l0b vals s
 | _, _ => Q36l0b vals s
set_option maxRecDepth 100000 in
set_option maxHeartbeats 4000000 in
theorem qok36l0c : SumKOk Try.prog (loopN Try.f36 0) 63 [4, 5, 6, 7, 8] [4, 6, 7] Q36l0c := by
  intro vals s x h1 h2 h3
  unfold Q36l0c at h3; split at h3
  · rename_i h; split at h3
    · rename_i hc; obtain ⟨rfl, rfl, rfl, rfl, rfl, rfl, rfl⟩ := hc; exact sum_step ok45 extOk mixed (lok36_2.inner (by kernel_rfl)) qok36l0b h1 h2 h (e36l0c _ _ _ _ _ _ _ _) rfl h3
    · exact qok36l0b _ _ _ h1 h2 h3
  · exact qok36l0b _ _ _ h1 h2 h3
noncomputable def L36_3 : LoopT := addL L36_2 6 ([4, 5, 6, 7, 8], []) (sumK 63 [4, 5, 6, 7, 8] [4, 6, 7] Q36l0c)
theorem lok36_3 : LfOkF Try.prog L36_3 Try.f36 := lfOkF_add lok36_2 qok36l0c (by kernel_rfl) (by kernel_rfl) (by kernel_rfl)

/-- spec.l05Mul, loop 0 -/
noncomputable def r36l0d (x0 x1 x2 x3 x4 x5 x6 x7 : Nat) : Nat × Nat × Nat × Nat × Nat × Nat × Nat :=
 cond (!feq .f32 x5 x5)
  (cond (narrowOk (r44 (-1)))
   (cond (narrowOk (r44 1))
    (0, x0, x1, (narrow (r44 (-1))), (narrow (r44 1)), 0, 0)
    (2, 0, 0, 0, 0, 0, 0))
   (2, 0, 0, 0, 0, 0, 0))
  (cond (flt .f32 x5 x0)
   (cond (fgt .f32 x5 x1)
    (cond (Nat.beq ((r36l0c x5 x5 x2 x3 x4 x5 x6 x7).1) 0)
     (0, ((r36l0c x5 x5 x2 x3 x4 x5 x6 x7).2.1), ((r36l0c x5 x5 x2 x3 x4 x5 x6 x7).2.2.1), ((r36l0c x5 x5 x2 x3 x4 x5 x6 x7).2.2.2.1), ((r36l0c x5 x5 x2 x3 x4 x5 x6 x7).2.2.2.2.1), 0, 0)
     (cond (Nat.beq ((r36l0c x5 x5 x2 x3 x4 x5 x6 x7).1) 1)
      (1, 0, 0, 0, 0, ((r36l0c x5 x5 x2 x3 x4 x5 x6 x7).2.2.2.2.2.1), ((r36l0c x5 x5 x2 x3 x4 x5 x6 x7).2.2.2.2.2.2))
      (2, 0, 0, 0, 0, 0, 0)))
    (cond (Nat.beq ((r36l0c x5 x1 x2 x3 x4 x5 x6 x7).1) 0)
     (0, ((r36l0c x5 x1 x2 x3 x4 x5 x6 x7).2.1), ((r36l0c x5 x1 x2 x3 x4 x5 x6 x7).2.2.1), ((r36l0c x5 x1 x2 x3 x4 x5 x6 x7).2.2.2.1), ((r36l0c x5 x1 x2 x3 x4 x5 x6 x7).2.2.2.2.1), 0, 0)
     (cond (Nat.beq ((r36l0c x5 x1 x2 x3 x4 x5 x6 x7).1) 1)
      (1, 0, 0, 0, 0, ((r36l0c x5 x1 x2 x3 x4 x5 x6 x7).2.2.2.2.2.1), ((r36l0c x5 x1 x2 x3 x4 x5 x6 x7).2.2.2.2.2.2))
      (2, 0, 0, 0, 0, 0, 0))))
   (cond (fgt .f32 x5 x1)
    (cond (Nat.beq ((r36l0c x0 x5 x2 x3 x4 x5 x6 x7).1) 0)
     (0, ((r36l0c x0 x5 x2 x3 x4 x5 x6 x7).2.1), ((r36l0c x0 x5 x2 x3 x4 x5 x6 x7).2.2.1), ((r36l0c x0 x5 x2 x3 x4 x5 x6 x7).2.2.2.1), ((r36l0c x0 x5 x2 x3 x4 x5 x6 x7).2.2.2.2.1), 0, 0)
     (cond (Nat.beq ((r36l0c x0 x5 x2 x3 x4 x5 x6 x7).1) 1)
      (1, 0, 0, 0, 0, ((r36l0c x0 x5 x2 x3 x4 x5 x6 x7).2.2.2.2.2.1), ((r36l0c x0 x5 x2 x3 x4 x5 x6 x7).2.2.2.2.2.2))
      (2, 0, 0, 0, 0, 0, 0)))
    (cond (Nat.beq ((r36l0c x0 x1 x2 x3 x4 x5 x6 x7).1) 0)
     (0, ((r36l0c x0 x1 x2 x3 x4 x5 x6 x7).2.1), ((r36l0c x0 x1 x2 x3 x4 x5 x6 x7).2.2.1), ((r36l0c x0 x1 x2 x3 x4 x5 x6 x7).2.2.2.1), ((r36l0c x0 x1 x2 x3 x4 x5 x6 x7).2.2.2.2.1), 0, 0)
     (cond (Nat.beq ((r36l0c x0 x1 x2 x3 x4 x5 x6 x7).1) 1)
      (1, 0, 0, 0, 0, ((r36l0c x0 x1 x2 x3 x4 x5 x6 x7).2.2.2.2.2.1), ((r36l0c x0 x1 x2 x3 x4 x5 x6 x7).2.2.2.2.2.2))
      (2, 0, 0, 0, 0, 0, 0)))))
noncomputable def a36l0d (x0 x1 x2 x3 x4 x5 x6 x7 : Nat) (p : Nat × Nat × Nat × Nat × Nat × Nat × Nat) : Option (Fin' × List Value × St) := firstT ([((Nat.beq (p.1) 0), .ret, [.pointer (some ⟨0, 0, some 0⟩), .float .f32 (p.2.1), .float .f32 (p.2.2.1)], ⟨[⟨true, (some (.cells [.float .f32 (p.2.2.2.1), .float .f32 (p.2.2.2.2.1)]))⟩, ⟨true, (some (.cells [.float .f32 x4, .float .f32 x5, .float .f32 x6, .float .f32 x7]))⟩], 2, [0]⟩), ((Nat.beq (p.1) 1), .exit 0, [.pointer (some ⟨0, 0, some 0⟩), .float .f32 (p.2.2.2.2.2.1), .float .f32 (p.2.2.2.2.2.2)], ⟨[⟨true, (some (.cells [.float .f32 x2, .float .f32 x3]))⟩, ⟨true, (some (.cells [.float .f32 x4, .float .f32 x5, .float .f32 x6, .float .f32 x7]))⟩], 2, [0]⟩)].map fun (b, x) => (b, (x.1, frameOf 63 [4, 6, 7] x.2.1, x.2.2)))
noncomputable def w36l0d (x0 x1 x2 x3 x4 x5 x6 x7 : Nat) : Option (Fin' × List Value × St) :=
 (cond (!feq .f32 x5 x5)
 (cond (narrowOk (r44 (-1)))
  (cond (narrowOk (r44 1))
   (a36l0d x0 x1 x2 x3 x4 x5 x6 x7 (0, x0, x1, (narrow (r44 (-1))), (narrow (r44 1)), 0, 0))
   none)
  none)
 (cond (flt .f32 x5 x0)
  (cond (fgt .f32 x5 x1)
   (cond (Nat.beq ((r36l0c x5 x5 x2 x3 x4 x5 x6 x7).1) 0)
    (a36l0d x0 x1 x2 x3 x4 x5 x6 x7 (0, ((r36l0c x5 x5 x2 x3 x4 x5 x6 x7).2.1), ((r36l0c x5 x5 x2 x3 x4 x5 x6 x7).2.2.1), ((r36l0c x5 x5 x2 x3 x4 x5 x6 x7).2.2.2.1), ((r36l0c x5 x5 x2 x3 x4 x5 x6 x7).2.2.2.2.1), 0, 0))
    (cond (Nat.beq ((r36l0c x5 x5 x2 x3 x4 x5 x6 x7).1) 1)
     (a36l0d x0 x1 x2 x3 x4 x5 x6 x7 (1, 0, 0, 0, 0, ((r36l0c x5 x5 x2 x3 x4 x5 x6 x7).2.2.2.2.2.1), ((r36l0c x5 x5 x2 x3 x4 x5 x6 x7).2.2.2.2.2.2)))
     none))
   (cond (Nat.beq ((r36l0c x5 x1 x2 x3 x4 x5 x6 x7).1) 0)
    (a36l0d x0 x1 x2 x3 x4 x5 x6 x7 (0, ((r36l0c x5 x1 x2 x3 x4 x5 x6 x7).2.1), ((r36l0c x5 x1 x2 x3 x4 x5 x6 x7).2.2.1), ((r36l0c x5 x1 x2 x3 x4 x5 x6 x7).2.2.2.1), ((r36l0c x5 x1 x2 x3 x4 x5 x6 x7).2.2.2.2.1), 0, 0))
    (cond (Nat.beq ((r36l0c x5 x1 x2 x3 x4 x5 x6 x7).1) 1)
     (a36l0d x0 x1 x2 x3 x4 x5 x6 x7 (1, 0, 0, 0, 0, ((r36l0c x5 x1 x2 x3 x4 x5 x6 x7).2.2.2.2.2.1), ((r36l0c x5 x1 x2 x3 x4 x5 x6 x7).2.2.2.2.2.2)))
     none)))
  (cond (fgt .f32 x5 x1)
   (cond (Nat.beq ((r36l0c x0 x5 x2 x3 x4 x5 x6 x7).1) 0)
    (a36l0d x0 x1 x2 x3 x4 x5 x6 x7 (0, ((r36l0c x0 x5 x2 x3 x4 x5 x6 x7).2.1), ((r36l0c x0 x5 x2 x3 x4 x5 x6 x7).2.2.1), ((r36l0c x0 x5 x2 x3 x4 x5 x6 x7).2.2.2.1), ((r36l0c x0 x5 x2 x3 x4 x5 x6 x7).2.2.2.2.1), 0, 0))
    (cond (Nat.beq ((r36l0c x0 x5 x2 x3 x4 x5 x6 x7).1) 1)
     (a36l0d x0 x1 x2 x3 x4 x5 x6 x7 (1, 0, 0, 0, 0, ((r36l0c x0 x5 x2 x3 x4 x5 x6 x7).2.2.2.2.2.1), ((r36l0c x0 x5 x2 x3 x4 x5 x6 x7).2.2.2.2.2.2)))
     none))
   (cond (Nat.beq ((r36l0c x0 x1 x2 x3 x4 x5 x6 x7).1) 0)
    (a36l0d x0 x1 x2 x3 x4 x5 x6 x7 (0, ((r36l0c x0 x1 x2 x3 x4 x5 x6 x7).2.1), ((r36l0c x0 x1 x2 x3 x4 x5 x6 x7).2.2.1), ((r36l0c x0 x1 x2 x3 x4 x5 x6 x7).2.2.2.1), ((r36l0c x0 x1 x2 x3 x4 x5 x6 x7).2.2.2.2.1), 0, 0))
    (cond (Nat.beq ((r36l0c x0 x1 x2 x3 x4 x5 x6 x7).1) 1)
     (a36l0d x0 x1 x2 x3 x4 x5 x6 x7 (1, 0, 0, 0, 0, ((r36l0c x0 x1 x2 x3 x4 x5 x6 x7).2.2.2.2.2.1), ((r36l0c x0 x1 x2 x3 x4 x5 x6 x7).2.2.2.2.2.2)))
     none)))))
set_option maxRecDepth 100000 in
set_option maxHeartbeats 4000000 in
theorem e36l0d (x0 x1 x2 x3 x4 x5 x6 x7 : Nat) : evC Try.prog ext T45 L36_3 200 (loopN Try.f36 0) (loopTail ([4, 5, 6, 7, 8], []) [4, 6, 7] [] (sumK 63 [4, 5, 6, 7, 8] [4, 6, 7] Q36l0c)) (frameOf 63 [4, 5, 6, 7, 8] [.pointer (some ⟨0, 0, some 0⟩), .pointer (some ⟨1, 0, some 0⟩), .float .f32 x0, .float .f32 x1, .int .i64 1]) ⟨[⟨true, (some (.cells [.float .f32 x2, .float .f32 x3]))⟩, ⟨true, (some (.cells [.float .f32 x4, .float .f32 x5, .float .f32 x6, .float .f32 x7]))⟩], 2, []⟩ = firstT ([((Nat.beq ((r36l0d x0 x1 x2 x3 x4 x5 x6 x7).1) 0), .ret, [.pointer (some ⟨0, 0, some 0⟩), .float .f32 ((r36l0d x0 x1 x2 x3 x4 x5 x6 x7).2.1), .float .f32 ((r36l0d x0 x1 x2 x3 x4 x5 x6 x7).2.2.1)], ⟨[⟨true, (some (.cells [.float .f32 ((r36l0d x0 x1 x2 x3 x4 x5 x6 x7).2.2.2.1), .float .f32 ((r36l0d x0 x1 x2 x3 x4 x5 x6 x7).2.2.2.2.1)]))⟩, ⟨true, (some (.cells [.float .f32 x4, .float .f32 x5, .float .f32 x6, .float .f32 x7]))⟩], 2, [0]⟩), ((Nat.beq ((r36l0d x0 x1 x2 x3 x4 x5 x6 x7).1) 1), .exit 0, [.pointer (some ⟨0, 0, some 0⟩), .float .f32 ((r36l0d x0 x1 x2 x3 x4 x5 x6 x7).2.2.2.2.2.1), .float .f32 ((r36l0d x0 x1 x2 x3 x4 x5 x6 x7).2.2.2.2.2.2)], ⟨[⟨true, (some (.cells [.float .f32 x2, .float .f32 x3]))⟩, ⟨true, (some (.cells [.float .f32 x4, .float .f32 x5, .float .f32 x6, .float .f32 x7]))⟩], 2, [0]⟩)].map fun (b, x) => (b, (x.1, frameOf 63 [4, 6, 7] x.2.1, x.2.2))) :=
 (show evC Try.prog ext T45 L36_3 200 (loopN Try.f36 0) (loopTail ([4, 5, 6, 7, 8], []) [4, 6, 7] [] (sumK 63 [4, 5, 6, 7, 8] [4, 6, 7] Q36l0c)) (frameOf 63 [4, 5, 6, 7, 8] [.pointer (some ⟨0, 0, some 0⟩), .pointer (some ⟨1, 0, some 0⟩), .float .f32 x0, .float .f32 x1, .int .i64 1]) ⟨[⟨true, (some (.cells [.float .f32 x2, .float .f32 x3]))⟩, ⟨true, (some (.cells [.float .f32 x4, .float .f32 x5, .float .f32 x6, .float .f32 x7]))⟩], 2, []⟩ = w36l0d x0 x1 x2 x3 x4 x5 x6 x7 from by kernel_rfl).trans
 (show w36l0d x0 x1 x2 x3 x4 x5 x6 x7 = a36l0d x0 x1 x2 x3 x4 x5 x6 x7 (r36l0d x0 x1 x2 x3 x4 x5 x6 x7) from by unfold w36l0d r36l0d; exact (cond_app (a36l0d x0 x1 x2 x3 x4 x5 x6 x7) _ (cond_app (a36l0d x0 x1 x2 x3 x4 x5 x6 x7) _ (cond_app (a36l0d x0 x1 x2 x3 x4 x5 x6 x7) _ rfl rfl) rfl) (cond_app (a36l0d x0 x1 x2 x3 x4 x5 x6 x7) _ (cond_app (a36l0d x0 x1 x2 x3 x4 x5 x6 x7) _ (cond_app (a36l0d x0 x1 x2 x3 x4 x5 x6 x7) _ rfl (cond_app (a36l0d x0 x1 x2 x3 x4 x5 x6 x7) _ rfl rfl)) (cond_app (a36l0d x0 x1 x2 x3 x4 x5 x6 x7) _ rfl (cond_app (a36l0d x0 x1 x2 x3 x4 x5 x6 x7) _ rfl rfl))) (cond_app (a36l0d x0 x1 x2 x3 x4 x5 x6 x7) _ (cond_app (a36l0d x0 x1 x2 x3 x4 x5 x6 x7) _ rfl (cond_app (a36l0d x0 x1 x2 x3 x4 x5 x6 x7) _ rfl rfl)) (cond_app (a36l0d x0 x1 x2 x3 x4 x5 x6 x7) _ rfl (cond_app (a36l0d x0 x1 x2 x3 x4 x5 x6 x7) _ rfl rfl))))))
noncomputable def Q36l0d : SumK := fun vals s =>
 match vals, s.h with
 | [.pointer (some ⟨f0, f1, some f2⟩), .pointer (some ⟨f3, f4, some f5⟩), .float .f32 x0, .float .f32 x1, .int .i64 f6], [⟨true, some (.cells [.float .f32 x2, .float .f32 x3])⟩, ⟨true, some (.cells [.float .f32 x4, .float .f32 x5, .float .f32 x6, .float .f32 x7])⟩] => if f0 = 0 ∧ f1 = 0 ∧ f2 = 0 ∧ f3 = 1 ∧ f4 = 0 ∧ f5 = 0 ∧ f6 = 1 then [((Nat.beq ((r36l0d x0 x1 x2 x3 x4 x5 x6 x7).1) 0), .ret, [.pointer (some ⟨0, 0, some 0⟩), .float .f32 ((r36l0d x0 x1 x2 x3 x4 x5 x6 x7).2.1), .float .f32 ((r36l0d x0 x1 x2 x3 x4 x5 x6 x7).2.2.1)], ⟨[⟨true, (some (.cells [.float .f32 ((r36l0d x0 x1 x2 x3 x4 x5 x6 x7).2.2.2.1), .float .f32 ((r36l0d x0 x1 x2 x3 x4 x5 x6 x7).2.2.2.2.1)]))⟩, ⟨true, (some (.cells [.float .f32 x4, .float .f32 x5, .float .f32 x6, .float .f32 x7]))⟩], 2, [0]⟩), ((Nat.beq ((r36l0d x0 x1 x2 x3 x4 x5 x6 x7).1) 1), .exit 0, [.pointer (some ⟨0, 0, some 0⟩), .float .f32 ((r36l0d x0 x1 x2 x3 x4 x5 x6 x7).2.2.2.2.2.1), .float .f32 ((r36l0d x0 x1 x2 x3 x4 x5 x6 x7).2.2.2.2.2.2)], ⟨[⟨true, (some (.cells [.float .f32 x2, .float .f32 x3]))⟩, ⟨true, (some (.cells [.float .f32 x4, .float .f32 x5, .float .f32 x6, .float .f32 x7]))⟩], 2, [0]⟩)] else Q36l0c vals s
 | _, _ => Q36l0c vals s
set_option maxRecDepth 100000 in
set_option maxHeartbeats 4000000 in
theorem qok36l0d : SumKOk Try.prog (loopN Try.f36 0) 63 [4, 5, 6, 7, 8] [4, 6, 7] Q36l0d := by
  intro vals s x h1 h2 h3
  unfold Q36l0d at h3; split at h3
  · rename_i h; split at h3
    · rename_i hc; obtain ⟨rfl, rfl, rfl, rfl, rfl, rfl, rfl⟩ := hc; exact sum_step ok45 extOk mixed (lok36_3.inner (by kernel_rfl)) qok36l0c h1 h2 h (e36l0d _ _ _ _ _ _ _ _) rfl h3
    · exact qok36l0c _ _ _ h1 h2 h3
  · exact qok36l0c _ _ _ h1 h2 h3
noncomputable def L36_4 : LoopT := addL L36_3 6 ([4, 5, 6, 7, 8], []) (sumK 63 [4, 5, 6, 7, 8] [4, 6, 7] Q36l0d)
theorem lok36_4 : LfOkF Try.prog L36_4 Try.f36 := lfOkF_add lok36_3 qok36l0d (by kernel_rfl) (by kernel_rfl) (by kernel_rfl)

/-- spec.l05Mul, loop 0 -/
noncomputable def r36l0e (x0 x1 x2 x3 x4 x5 x6 x7 : Nat) : Nat × Nat × Nat × Nat × Nat × Nat × Nat :=
 cond (!feq .f32 x4 x4)
  (cond (narrowOk (r44 (-1)))
   (cond (narrowOk (r44 1))
    (0, x0, x1, (narrow (r44 (-1))), (narrow (r44 1)), 0, 0)
    (2, 0, 0, 0, 0, 0, 0))
   (2, 0, 0, 0, 0, 0, 0))
  (cond (flt .f32 x4 x0)
   (cond (fgt .f32 x4 x1)
    (cond (Nat.beq ((r36l0d x4 x4 x2 x3 x4 x5 x6 x7).1) 0)
     (0, ((r36l0d x4 x4 x2 x3 x4 x5 x6 x7).2.1), ((r36l0d x4 x4 x2 x3 x4 x5 x6 x7).2.2.1), ((r36l0d x4 x4 x2 x3 x4 x5 x6 x7).2.2.2.1), ((r36l0d x4 x4 x2 x3 x4 x5 x6 x7).2.2.2.2.1), 0, 0)
     (cond (Nat.beq ((r36l0d x4 x4 x2 x3 x4 x5 x6 x7).1) 1)
      (1, 0, 0, 0, 0, ((r36l0d x4 x4 x2 x3 x4 x5 x6 x7).2.2.2.2.2.1), ((r36l0d x4 x4 x2 x3 x4 x5 x6 x7).2.2.2.2.2.2))
      (2, 0, 0, 0, 0, 0, 0)))
    (cond (Nat.beq ((r36l0d x4 x1 x2 x3 x4 x5 x6 x7).1) 0)
     (0, ((r36l0d x4 x1 x2 x3 x4 x5 x6 x7).2.1), ((r36l0d x4 x1 x2 x3 x4 x5 x6 x7).2.2.1), ((r36l0d x4 x1 x2 x3 x4 x5 x6 x7).2.2.2.1), ((r36l0d x4 x1 x2 x3 x4 x5 x6 x7).2.2.2.2.1), 0, 0)
     (cond (Nat.beq ((r36l0d x4 x1 x2 x3 x4 x5 x6 x7).1) 1)
      (1, 0, 0, 0, 0, ((r36l0d x4 x1 x2 x3 x4 x5 x6 x7).2.2.2.2.2.1), ((r36l0d x4 x1 x2 x3 x4 x5 x6 x7).2.2.2.2.2.2))
      (2, 0, 0, 0, 0, 0, 0))))
   (cond (fgt .f32 x4 x1)
    (cond (Nat.beq ((r36l0d x0 x4 x2 x3 x4 x5 x6 x7).1) 0)
     (0, ((r36l0d x0 x4 x2 x3 x4 x5 x6 x7).2.1), ((r36l0d x0 x4 x2 x3 x4 x5 x6 x7).2.2.1), ((r36l0d x0 x4 x2 x3 x4 x5 x6 x7).2.2.2.1), ((r36l0d x0 x4 x2 x3 x4 x5 x6 x7).2.2.2.2.1), 0, 0)
     (cond (Nat.beq ((r36l0d x0 x4 x2 x3 x4 x5 x6 x7).1) 1)
      (1, 0, 0, 0, 0, ((r36l0d x0 x4 x2 x3 x4 x5 x6 x7).2.2.2.2.2.1), ((r36l0d x0 x4 x2 x3 x4 x5 x6 x7).2.2.2.2.2.2))
      (2, 0, 0, 0, 0, 0, 0)))
    (cond (Nat.beq ((r36l0d x0 x1 x2 x3 x4 x5 x6 x7).1) 0)
     (0, ((r36l0d x0 x1 x2 x3 x4 x5 x6 x7).2.1), ((r36l0d x0 x1 x2 x3 x4 x5 x6 x7).2.2.1), ((r36l0d x0 x1 x2 x3 x4 x5 x6 x7).2.2.2.1), ((r36l0d x0 x1 x2 x3 x4 x5 x6 x7).2.2.2.2.1), 0, 0)
     (cond (Nat.beq ((r36l0d x0 x1 x2 x3 x4 x5 x6 x7).1) 1)
      (1, 0, 0, 0, 0, ((r36l0d x0 x1 x2 x3 x4 x5 x6 x7).2.2.2.2.2.1), ((r36l0d x0 x1 x2 x3 x4 x5 x6 x7).2.2.2.2.2.2))
      (2, 0, 0, 0, 0, 0, 0)))))
noncomputable def a36l0e (x0 x1 x2 x3 x4 x5 x6 x7 : Nat) (p : Nat × Nat × Nat × Nat × Nat × Nat × Nat) : Option (Fin' × List Value × St) := firstT ([((Nat.beq (p.1) 0), .ret, [.pointer (some ⟨0, 0, some 0⟩), .float .f32 (p.2.1), .float .f32 (p.2.2.1)], ⟨[⟨true, (some (.cells [.float .f32 (p.2.2.2.1), .float .f32 (p.2.2.2.2.1)]))⟩, ⟨true, (some (.cells [.float .f32 x4, .float .f32 x5, .float .f32 x6, .float .f32 x7]))⟩], 2, [0]⟩), ((Nat.beq (p.1) 1), .exit 0, [.pointer (some ⟨0, 0, some 0⟩), .float .f32 (p.2.2.2.2.2.1), .float .f32 (p.2.2.2.2.2.2)], ⟨[⟨true, (some (.cells [.float .f32 x2, .float .f32 x3]))⟩, ⟨true, (some (.cells [.float .f32 x4, .float .f32 x5, .float .f32 x6, .float .f32 x7]))⟩], 2, [0]⟩)].map fun (b, x) => (b, (x.1, frameOf 63 [4, 6, 7] x.2.1, x.2.2)))
noncomputable def w36l0e (x0 x1 x2 x3 x4 x5 x6 x7 : Nat) : Option (Fin' × List Value × St) :=
 (cond (!feq .f32 x4 x4)
 (cond (narrowOk (r44 (-1)))
  (cond (narrowOk (r44 1))
   (a36l0e x0 x1 x2 x3 x4 x5 x6 x7 (0, x0, x1, (narrow (r44 (-1))), (narrow (r44 1)), 0, 0))
   none)
  none)
 (cond (flt .f32 x4 x0)
  (cond (fgt .f32 x4 x1)
   (cond (Nat.beq ((r36l0d x4 x4 x2 x3 x4 x5 x6 x7).1) 0)
    (a36l0e x0 x1 x2 x3 x4 x5 x6 x7 (0, ((r36l0d x4 x4 x2 x3 x4 x5 x6 x7).2.1), ((r36l0d x4 x4 x2 x3 x4 x5 x6 x7).2.2.1), ((r36l0d x4 x4 x2 x3 x4 x5 x6 x7).2.2.2.1), ((r36l0d x4 x4 x2 x3 x4 x5 x6 x7).2.2.2.2.1), 0, 0))
    (cond (Nat.beq ((r36l0d x4 x4 x2 x3 x4 x5 x6 x7).1) 1)
     (a36l0e x0 x1 x2 x3 x4 x5 x6 x7 (1, 0, 0, 0, 0, ((r36l0d x4 x4 x2 x3 x4 x5 x6 x7).2.2.2.2.2.1), ((r36l0d x4 x4 x2 x3 x4 x5 x6 x7).2.2.2.2.2.2)))
     none))
   (cond (Nat.beq ((r36l0d x4 x1 x2 x3 x4 x5 x6 x7).1) 0)
    (a36l0e x0 x1 x2 x3 x4 x5 x6 x7 (0, ((r36l0d x4 x1 x2 x3 x4 x5 x6 x7).2.1), ((r36l0d x4 x1 x2 x3 x4 x5 x6 x7).2.2.1), ((r36l0d x4 x1 x2 x3 x4 x5 x6 x7).2.2.2.1), ((r36l0d x4 x1 x2 x3 x4 x5 x6 x7).2.2.2.2.1), 0, 0))
    (cond (Nat.beq ((r36l0d x4 x1 x2 x3 x4 x5 x6 x7).1) 1)
     (a36l0e x0 x1 x2 x3 x4 x5 x6 x7 (1, 0, 0, 0, 0, ((r36l0d x4 x1 x2 x3 x4 x5 x6 x7).2.2.2.2.2.1), ((r36l0d x4 x1 x2 x3 x4 x5 x6 x7).2.2.2.2.2.2)))
     none)))
  (cond (fgt .f32 x4 x1)
   (cond (Nat.beq ((r36l0d x0 x4 x2 x3 x4 x5 x6 x7).1) 0)
    (a36l0e x0 x1 x2 x3 x4 x5 x6 x7 (0, ((r36l0d x0 x4 x2 x3 x4 x5 x6 x7).2.1), ((r36l0d x0 x4 x2 x3 x4 x5 x6 x7).2.2.1), ((r36l0d x0 x4 x2 x3 x4 x5 x6 x7).2.2.2.1), ((r36l0d x0 x4 x2 x3 x4 x5 x6 x7).2.2.2.2.1), 0, 0))
    (cond (Nat.beq ((r36l0d x0 x4 x2 x3 x4 x5 x6 x7).1) 1)
     (a36l0e x0 x1 x2 x3 x4 x5 x6 x7 (1, 0, 0, 0, 0, ((r36l0d x0 x4 x2 x3 x4 x5 x6 x7).2.2.2.2.2.1), ((r36l0d x0 x4 x2 x3 x4 x5 x6 x7).2.2.2.2.2.2)))
     none))
   (cond (Nat.beq ((r36l0d x0 x1 x2 x3 x4 x5 x6 x7).1) 0)
    (a36l0e x0 x1 x2 x3 x4 x5 x6 x7 (0, ((r36l0d x0 x1 x2 x3 x4 x5 x6 x7).2.1), ((r36l0d x0 x1 x2 x3 x4 x5 x6 x7).2.2.1), ((r36l0d x0 x1 x2 x3 x4 x5 x6 x7).2.2.2.1), ((r36l0d x0 x1 x2 x3 x4 x5 x6 x7).2.2.2.2.1), 0, 0))
    (cond (Nat.beq ((r36l0d x0 x1 x2 x3 x4 x5 x6 x7).1) 1)
     (a36l0e x0 x1 x2 x3 x4 x5 x6 x7 (1, 0, 0, 0, 0, ((r36l0d x0 x1 x2 x3 x4 x5 x6 x7).2.2.2.2.2.1), ((r36l0d x0 x1 x2 x3 x4 x5 x6 x7).2.2.2.2.2.2)))
     none)))))
set_option maxRecDepth 100000 in
set_option maxHeartbeats 4000000 in
theorem e36l0e (x0 x1 x2 x3 x4 x5 x6 x7 : Nat) : evC Try.prog ext T45 L36_4 200 (loopN Try.f36 0) (loopTail ([4, 5, 6, 7, 8], []) [4, 6, 7] [] (sumK 63 [4, 5, 6, 7, 8] [4, 6, 7] Q36l0d)) (frameOf 63 [4, 5, 6, 7, 8] [.pointer (some ⟨0, 0, some 0⟩), .pointer (some ⟨1, 0, some 0⟩), .float .f32 x0, .float .f32 x1, .int .i64 0]) ⟨[⟨true, (some (.cells [.float .f32 x2, .float .f32 x3]))⟩, ⟨true, (some (.cells [.float .f32 x4, .float .f32 x5, .float .f32 x6, .float .f32 x7]))⟩], 2, []⟩ = firstT ([((Nat.beq ((r36l0e x0 x1 x2 x3 x4 x5 x6 x7).1) 0), .ret, [.pointer (some ⟨0, 0, some 0⟩), .float .f32 ((r36l0e x0 x1 x2 x3 x4 x5 x6 x7).2.1), .float .f32 ((r36l0e x0 x1 x2 x3 x4 x5 x6 x7).2.2.1)], ⟨[⟨true, (some (.cells [.float .f32 ((r36l0e x0 x1 x2 x3 x4 x5 x6 x7).2.2.2.1), .float .f32 ((r36l0e x0 x1 x2 x3 x4 x5 x6 x7).2.2.2.2.1)]))⟩, ⟨true, (some (.cells [.float .f32 x4, .float .f32 x5, .float .f32 x6, .float .f32 x7]))⟩], 2, [0]⟩), ((Nat.beq ((r36l0e x0 x1 x2 x3 x4 x5 x6 x7).1) 1), .exit 0, [.pointer (some ⟨0, 0, some 0⟩), .float .f32 ((r36l0e x0 x1 x2 x3 x4 x5 x6 x7).2.2.2.2.2.1), .float .f32 ((r36l0e x0 x1 x2 x3 x4 x5 x6 x7).2.2.2.2.2.2)], ⟨[⟨true, (some (.cells [.float .f32 x2, .float .f32 x3]))⟩, ⟨true, (some (.cells [.float .f32 x4, .float .f32 x5, .float .f32 x6, .float .f32 x7]))⟩], 2, [0]⟩)].map fun (b, x) => (b, (x.1, frameOf 63 [4, 6, 7] x.2.1, x.2.2))) :=
 (show evC Try.prog ext T45 L36_4 200 (loopN Try.f36 0) (loopTail ([4, 5, 6, 7, 8], []) [4, 6, 7] [] (sumK 63 [4, 5, 6, 7, 8] [4, 6, 7] Q36l0d)) (frameOf 63 [4, 5, 6, 7, 8] [.pointer (some ⟨0, 0, some 0⟩), .pointer (some ⟨1, 0, some 0⟩), .float .f32 x0, .float .f32 x1, .int .i64 0]) ⟨[⟨true, (some (.cells [.float .f32 x2, .float .f32 x3]))⟩, ⟨true, (some (.cells [.float .f32 x4, .float .f32 x5, .float .f32 x6, .float .f32 x7]))⟩], 2, []⟩ = w36l0e x0 x1 x2 x3 x4 x5 x6 x7 from by kernel_rfl).trans
 (show w36l0e x0 x1 x2 x3 x4 x5 x6 x7 = a36l0e x0 x1 x2 x3 x4 x5 x6 x7 (r36l0e x0 x1 x2 x3 x4 x5 x6 x7) from by unfold w36l0e r36l0e; exact (cond_app (a36l0e x0 x1 x2 x3 x4 x5 x6 x7) _ (cond_app (a36l0e x0 x1 x2 x3 x4 x5 x6 x7) _ (cond_app (a36l0e x0 x1 x2 x3 x4 x5 x6 x7) _ rfl rfl) rfl) (cond_app (a36l0e x0 x1 x2 x3 x4 x5 x6 x7) _ (cond_app (a36l0e x0 x1 x2 x3 x4 x5 x6 x7) _ (cond_app (a36l0e x0 x1 x2 x3 x4 x5 x6 x7) _ rfl (cond_app (a36l0e x0 x1 x2 x3 x4 x5 x6 x7) _ rfl rfl)) (cond_app (a36l0e x0 x1 x2 x3 x4 x5 x6 x7) _ rfl (cond_app (a36l0e x0 x1 x2 x3 x4 x5 x6 x7) _ rfl rfl))) (cond_app (a36l0e x0 x1 x2 x3 x4 x5 x6 x7) _ (cond_app (a36l0e x0 x1 x2 x3 x4 x5 x6 x7) _ rfl (cond_app (a36l0e x0 x1 x2 x3 x4 x5 x6 x7) _ rfl rfl)) (cond_app (a36l0e x0 x1 x2 x3 x4 x5 x6 x7) _ rfl (cond_app (a36l0e x0 x1 x2 x3 x4 x5 x6 x7) _ rfl rfl))))))
noncomputable def Q36l0e : SumK := fun vals s =>
 match vals, s.h with
 | [.pointer (some ⟨f0, f1, some f2⟩), .pointer (some ⟨f3, f4, some f5⟩), .float .f32 x0, .float .f32 x1, .int .i64 f6], [⟨true, some (.cells [.float .f32 x2, .float .f32 x3])⟩, ⟨true, some (.cells [.float .f32 x4, .float .f32 x5, .float .f32 x6, .float .f32 x7])⟩] => if f0 = 0 ∧ f1 = 0 ∧ f2 = 0 ∧ f3 = 1 ∧ f4 = 0 ∧ f5 = 0 ∧ f6 = 0 then [((Nat.beq ((r36l0e x0 x1 x2 x3 x4 x5 x6 x7).1) 0), .ret, [.pointer (some ⟨0, 0, some 0⟩), .float .f32 ((r36l0e x0 x1 x2 x3 x4 x5 x6 x7).2.1), .float .f32 ((r36l0e x0 x1 x2 x3 x4 x5 x6 x7).2.2.1)], ⟨[⟨true, (some (.cells [.float .f32 ((r36l0e x0 x1 x2 x3 x4 x5 x6 x7).2.2.2.1), .float .f32 ((r36l0e x0 x1 x2 x3 x4 x5 x6 x7).2.2.2.2.1)]))⟩, ⟨true, (some (.cells [.float .f32 x4, .float .f32 x5, .float .f32 x6, .float .f32 x7]))⟩], 2, [0]⟩), ((Nat.beq ((r36l0e x0 x1 x2 x3 x4 x5 x6 x7).1) 1), .exit 0, [.pointer (some ⟨0, 0, some 0⟩), .float .f32 ((r36l0e x0 x1 x2 x3 x4 x5 x6 x7).2.2.2.2.2.1), .float .f32 ((r36l0e x0 x1 x2 x3 x4 x5 x6 x7).2.2.2.2.2.2)], ⟨[⟨true, (some (.cells [.float .f32 x2, .float .f32 x3]))⟩, ⟨true, (some (.cells [.float .f32 x4, .float .f32 x5, .float .f32 x6, .float .f32 x7]))⟩], 2, [0]⟩)] else Q36l0d vals s
 | _, _ => Q36l0d vals s
set_option maxRecDepth 100000 in
set_option maxHeartbeats 4000000 in
theorem qok36l0e : SumKOk Try.prog (loopN Try.f36 0) 63 [4, 5, 6, 7, 8] [4, 6, 7] Q36l0e := by
  intro vals s x h1 h2 h3
  unfold Q36l0e at h3; split at h3
  · rename_i h; split at h3
    · rename_i hc; obtain ⟨rfl, rfl, rfl, rfl, rfl, rfl, rfl⟩ := hc; exact sum_step ok45 extOk mixed (lok36_4.inner (by kernel_rfl)) qok36l0d h1 h2 h (e36l0e _ _ _ _ _ _ _ _) rfl h3
    · exact qok36l0d _ _ _ h1 h2 h3
  · exact qok36l0d _ _ _ h1 h2 h3
noncomputable def L36_5 : LoopT := addL L36_4 6 ([4, 5, 6, 7, 8], []) (sumK 63 [4, 5, 6, 7, 8] [4, 6, 7] Q36l0e)
theorem lok36_5 : LfOkF Try.prog L36_5 Try.f36 := lfOkF_add lok36_4 qok36l0e (by kernel_rfl) (by kernel_rfl) (by kernel_rfl)

/-- spec.l05Mul -/
noncomputable def r36 (x0 x1 x2 x3 : Nat) : Nat × Nat × Nat :=
 let c6 := (r29 ((r36l0e (fmul .f32 x0 x2) (fmul .f32 x0 x2) 0 0 (fmul .f32 x0 x2) (fmul .f32 x0 x3) (fmul .f32 x1 x2) (fmul .f32 x1 x3)).2.2.2.2.2.1))
 let c7 := (r28 ((r36l0e (fmul .f32 x0 x2) (fmul .f32 x0 x2) 0 0 (fmul .f32 x0 x2) (fmul .f32 x0 x3) (fmul .f32 x1 x2) (fmul .f32 x1 x3)).2.2.2.2.2.2))
 cond (Nat.beq ((r36l0e (fmul .f32 x0 x2) (fmul .f32 x0 x2) 0 0 (fmul .f32 x0 x2) (fmul .f32 x0 x3) (fmul .f32 x1 x2) (fmul .f32 x1 x3)).1) 0)
  (0, ((r36l0e (fmul .f32 x0 x2) (fmul .f32 x0 x2) 0 0 (fmul .f32 x0 x2) (fmul .f32 x0 x3) (fmul .f32 x1 x2) (fmul .f32 x1 x3)).2.2.2.1), ((r36l0e (fmul .f32 x0 x2) (fmul .f32 x0 x2) 0 0 (fmul .f32 x0 x2) (fmul .f32 x0 x3) (fmul .f32 x1 x2) (fmul .f32 x1 x3)).2.2.2.2.1))
  (cond (Nat.beq ((r36l0e (fmul .f32 x0 x2) (fmul .f32 x0 x2) 0 0 (fmul .f32 x0 x2) (fmul .f32 x0 x3) (fmul .f32 x1 x2) (fmul .f32 x1 x3)).1) 1)
   (0, c6, c7)
   (1, 0, 0))
noncomputable def a36 (x0 x1 x2 x3 : Nat) (p : Nat × Nat × Nat) : Res := firstT [((Nat.beq (p.1) 0), .agg #[.float .f32 (p.2.1), .float .f32 (p.2.2)], st0)]
noncomputable def w36 (x0 x1 x2 x3 : Nat) : Res :=
 let c6 := (r29 ((r36l0e (fmul .f32 x0 x2) (fmul .f32 x0 x2) 0 0 (fmul .f32 x0 x2) (fmul .f32 x0 x3) (fmul .f32 x1 x2) (fmul .f32 x1 x3)).2.2.2.2.2.1))
 let c7 := (r28 ((r36l0e (fmul .f32 x0 x2) (fmul .f32 x0 x2) 0 0 (fmul .f32 x0 x2) (fmul .f32 x0 x3) (fmul .f32 x1 x2) (fmul .f32 x1 x3)).2.2.2.2.2.2))
 (cond (Nat.beq ((r36l0e (fmul .f32 x0 x2) (fmul .f32 x0 x2) 0 0 (fmul .f32 x0 x2) (fmul .f32 x0 x3) (fmul .f32 x1 x2) (fmul .f32 x1 x3)).1) 0)
 (a36 x0 x1 x2 x3 (0, ((r36l0e (fmul .f32 x0 x2) (fmul .f32 x0 x2) 0 0 (fmul .f32 x0 x2) (fmul .f32 x0 x3) (fmul .f32 x1 x2) (fmul .f32 x1 x3)).2.2.2.1), ((r36l0e (fmul .f32 x0 x2) (fmul .f32 x0 x2) 0 0 (fmul .f32 x0 x2) (fmul .f32 x0 x3) (fmul .f32 x1 x2) (fmul .f32 x1 x3)).2.2.2.2.1)))
 (cond (Nat.beq ((r36l0e (fmul .f32 x0 x2) (fmul .f32 x0 x2) 0 0 (fmul .f32 x0 x2) (fmul .f32 x0 x3) (fmul .f32 x1 x2) (fmul .f32 x1 x3)).1) 1)
  (a36 x0 x1 x2 x3 (0, c6, c7))
  none))
set_option maxRecDepth 100000 in
set_option maxHeartbeats 4000000 in
theorem e36 (x0 x1 x2 x3 : Nat) : evFn Try.prog ext T45 L36_5 200 Try.f36 [.agg #[.float .f32 x0, .float .f32 x1], .agg #[.float .f32 x2, .float .f32 x3]] st0 = firstT [((Nat.beq ((r36 x0 x1 x2 x3).1) 0), .agg #[.float .f32 ((r36 x0 x1 x2 x3).2.1), .float .f32 ((r36 x0 x1 x2 x3).2.2)], st0)] :=
 (show evFn Try.prog ext T45 L36_5 200 Try.f36 [.agg #[.float .f32 x0, .float .f32 x1], .agg #[.float .f32 x2, .float .f32 x3]] st0 = w36 x0 x1 x2 x3 from by kernel_rfl).trans
 (show w36 x0 x1 x2 x3 = a36 x0 x1 x2 x3 (r36 x0 x1 x2 x3) from by unfold w36 r36; exact (cond_app (a36 x0 x1 x2 x3) _ rfl (cond_app (a36 x0 x1 x2 x3) _ rfl rfl)))
noncomputable def s36 (args : List Value) (s : St) : List (Bool × Value × St) :=
 match args, s.h with
 | [.agg ⟨[.float .f32 x0, .float .f32 x1]⟩, .agg ⟨[.float .f32 x2, .float .f32 x3]⟩], [] => [((Nat.beq ((r36 x0 x1 x2 x3).1) 0), .agg #[.float .f32 ((r36 x0 x1 x2 x3).2.1), .float .f32 ((r36 x0 x1 x2 x3).2.2)], st0)]
 | _, _ => T45 36 args s
noncomputable def T46 : CallF := addF T45 36 s36
set_option maxRecDepth 100000 in
set_option maxHeartbeats 4000000 in
theorem ok46 : CfOk Try.prog T46 := by
  refine cfOk_add ok45 fun args s r s' h1 h2 h3 => ?_
  unfold s36 at h3; split at h3
  · rename_i h; exact callOk ok45 Try.func36 h1 h2 h lok36_5.body (e36 _ _ _ _) rfl h3
  · exact ok45 _ _ _ _ _ h1 h2 h3

/-- spec.MulSpans -/
noncomputable def r18 (x0 x1 x2 x3 : Nat) : Nat × Nat × Nat × Int :=
 cond (((r35 x0 x1 x2 x3) : Int) != 0)
  (0, 0, 0, (r35 x0 x1 x2 x3))
  (cond (Nat.beq ((r36 x0 x1 x2 x3).1) 0)
   (0, ((r36 x0 x1 x2 x3).2.1), ((r36 x0 x1 x2 x3).2.2), 0)
   (1, 0, 0, 0))
noncomputable def a18 (x0 x1 x2 x3 : Nat) (p : Nat × Nat × Nat × Int) : Res := firstT [((Nat.beq (p.1) 0), .tuple #[.agg #[.float .f32 (p.2.1), .float .f32 (p.2.2.1)], .int .i64 (p.2.2.2)], st0)]
noncomputable def w18 (x0 x1 x2 x3 : Nat) : Res :=
 (cond (((r35 x0 x1 x2 x3) : Int) != 0)
 (a18 x0 x1 x2 x3 (0, 0, 0, (r35 x0 x1 x2 x3)))
 (cond (Nat.beq ((r36 x0 x1 x2 x3).1) 0)
  (a18 x0 x1 x2 x3 (0, ((r36 x0 x1 x2 x3).2.1), ((r36 x0 x1 x2 x3).2.2), 0))
  none))
set_option maxRecDepth 100000 in
set_option maxHeartbeats 4000000 in
theorem e18 (x0 x1 x2 x3 : Nat) : evFn Try.prog ext T46 noL 200 Try.f18 [.agg #[.float .f32 x0, .float .f32 x1], .agg #[.float .f32 x2, .float .f32 x3]] st0 = firstT [((Nat.beq ((r18 x0 x1 x2 x3).1) 0), .tuple #[.agg #[.float .f32 ((r18 x0 x1 x2 x3).2.1), .float .f32 ((r18 x0 x1 x2 x3).2.2.1)], .int .i64 ((r18 x0 x1 x2 x3).2.2.2)], st0)] :=
 (show evFn Try.prog ext T46 noL 200 Try.f18 [.agg #[.float .f32 x0, .float .f32 x1], .agg #[.float .f32 x2, .float .f32 x3]] st0 = w18 x0 x1 x2 x3 from by kernel_rfl).trans
 (show w18 x0 x1 x2 x3 = a18 x0 x1 x2 x3 (r18 x0 x1 x2 x3) from by unfold w18 r18; exact (cond_app (a18 x0 x1 x2 x3) _ rfl (cond_app (a18 x0 x1 x2 x3) _ rfl rfl)))
noncomputable def s18 (args : List Value) (s : St) : List (Bool × Value × St) :=
 match args, s.h with
 | [.agg ⟨[.float .f32 x0, .float .f32 x1]⟩, .agg ⟨[.float .f32 x2, .float .f32 x3]⟩], [] => [((Nat.beq ((r18 x0 x1 x2 x3).1) 0), .tuple #[.agg #[.float .f32 ((r18 x0 x1 x2 x3).2.1), .float .f32 ((r18 x0 x1 x2 x3).2.2.1)], .int .i64 ((r18 x0 x1 x2 x3).2.2.2)], st0)]
 | _, _ => T46 18 args s
noncomputable def T47 : CallF := addF T46 18 s18
set_option maxRecDepth 100000 in
set_option maxHeartbeats 4000000 in
theorem ok47 : CfOk Try.prog T47 := by
  refine cfOk_add ok46 fun args s r s' h1 h2 h3 => ?_
  unfold s18 at h3; split at h3
  · rename_i h; exact callOk ok46 Try.func18 h1 h2 h (lfOkF_no _ _).body (e18 _ _ _ _) rfl h3
  · exact ok46 _ _ _ _ _ h1 h2 h3

/-- math.IsNaN -/
noncomputable def r55 (x0 : Nat) : Bool :=
 ((!feq .f64 x0 x0))
noncomputable def a55 (x0 : Nat) (p : Bool) : Res := firstT [(true, .bool p, st0)]
noncomputable def w55 (x0 : Nat) : Res :=
 (a55 x0 ((!feq .f64 x0 x0)))
set_option maxRecDepth 100000 in
set_option maxHeartbeats 4000000 in
theorem e55 (x0 : Nat) : evFn Try.prog ext T47 noL 200 Try.f55 [.float .f64 x0] st0 = firstT [(true, .bool (r55 x0), st0)] :=
 (show evFn Try.prog ext T47 noL 200 Try.f55 [.float .f64 x0] st0 = w55 x0 from by kernel_rfl).trans
 (show w55 x0 = a55 x0 (r55 x0) from by unfold w55 r55; exact rfl)
noncomputable def s55 (args : List Value) (s : St) : List (Bool × Value × St) :=
 match args, s.h with
 | [.float .f64 x0], [] => [(true, .bool (r55 x0), st0)]
 | _, _ => T47 55 args s
noncomputable def T48 : CallF := addF T47 55 s55
set_option maxRecDepth 100000 in
set_option maxHeartbeats 4000000 in
theorem ok48 : CfOk Try.prog T48 := by
  refine cfOk_add ok47 fun args s r s' h1 h2 h3 => ?_
  unfold s55 at h3; split at h3
  · rename_i h; exact callOk ok47 Try.func55 h1 h2 h (lfOkF_no _ _).body (e55 _) rfl h3
  · exact ok47 _ _ _ _ _ h1 h2 h3

/-- impl.isFinite -/
noncomputable def r52 (x0 : Nat) : Bool :=
 cond (r55 (widen x0))
  (false)
  (cond (r26 (widen x0) 0)
   (false)
   (true))
noncomputable def a52 (x0 : Nat) (p : Bool) : Res := firstT [(true, .bool p, ⟨[⟨true, (some (.tab [.fl .f32] ([[((x0 : Nat) : Int)]] : List (List Int))))⟩], 1, []⟩)]
noncomputable def w52 (x0 : Nat) : Res :=
 (cond (r55 (widen x0))
 (a52 x0 (false))
 (cond (r26 (widen x0) 0)
  (a52 x0 (false))
  (a52 x0 (true))))
set_option maxRecDepth 100000 in
set_option maxHeartbeats 4000000 in
theorem e52 (x0 : Nat) : evFn Try.prog ext T48 noL 200 Try.f52 [.slice (some ⟨0, 0, some 0⟩) 1 1] ⟨[⟨true, (some (.tab [.fl .f32] ([[((x0 : Nat) : Int)]] : List (List Int))))⟩], 1, []⟩ = firstT [(true, .bool (r52 x0), ⟨[⟨true, (some (.tab [.fl .f32] ([[((x0 : Nat) : Int)]] : List (List Int))))⟩], 1, []⟩)] :=
 (show evFn Try.prog ext T48 noL 200 Try.f52 [.slice (some ⟨0, 0, some 0⟩) 1 1] ⟨[⟨true, (some (.tab [.fl .f32] ([[((x0 : Nat) : Int)]] : List (List Int))))⟩], 1, []⟩ = w52 x0 from by kernel_rfl).trans
 (show w52 x0 = a52 x0 (r52 x0) from by unfold w52 r52; exact (cond_app (a52 x0) _ rfl (cond_app (a52 x0) _ rfl rfl)))
noncomputable def s52 (args : List Value) (s : St) : List (Bool × Value × St) :=
 match args, s.h with
 | [.slice (some ⟨f0, f1, some f2⟩) f3 f4], [⟨true, some (.tab [.fl .f32] [[.ofNat x0]])⟩] => if f0 = 0 ∧ f1 = 0 ∧ f2 = 0 ∧ f3 = 1 ∧ f4 = 1 then [(true, .bool (r52 x0), ⟨[⟨true, (some (.tab [.fl .f32] ([[((x0 : Nat) : Int)]] : List (List Int))))⟩], 1, []⟩)] else T48 52 args s
 | _, _ => T48 52 args s
noncomputable def T49 : CallF := addF T48 52 s52
set_option maxRecDepth 100000 in
set_option maxHeartbeats 4000000 in
theorem ok49 : CfOk Try.prog T49 := by
  refine cfOk_add ok48 fun args s r s' h1 h2 h3 => ?_
  unfold s52 at h3; split at h3
  · rename_i h; split at h3
    · rename_i hc; obtain ⟨rfl, rfl, rfl, rfl, rfl⟩ := hc; exact callOk ok48 Try.func52 h1 h2 h (lfOkF_no _ _).body (e52 _) rfl h3
    · exact ok48 _ _ _ _ _ h1 h2 h3
  · exact ok48 _ _ _ _ _ h1 h2 h3

/-- impl.finite -/
noncomputable def r37 (x0 : Nat) : Nat × Int :=
 cond (!(r52 x0))
  (0, 4)
  (x0, 0)
noncomputable def a37 (x0 : Nat) (p : Nat × Int) : Res := firstT [(true, .tuple #[.float .f32 (p.1), .int .i64 (p.2)], st0)]
noncomputable def w37 (x0 : Nat) : Res :=
 (cond (!(r52 x0))
 (a37 x0 (0, 4))
 (a37 x0 (x0, 0)))
set_option maxRecDepth 100000 in
set_option maxHeartbeats 4000000 in
theorem e37 (x0 : Nat) : evFn Try.prog ext T49 noL 200 Try.f37 [.float .f32 x0] st0 = firstT [(true, .tuple #[.float .f32 ((r37 x0).1), .int .i64 ((r37 x0).2)], st0)] :=
 (show evFn Try.prog ext T49 noL 200 Try.f37 [.float .f32 x0] st0 = w37 x0 from by kernel_rfl).trans
 (show w37 x0 = a37 x0 (r37 x0) from by unfold w37 r37; exact (cond_app (a37 x0) _ rfl rfl))
noncomputable def s37 (args : List Value) (s : St) : List (Bool × Value × St) :=
 match args, s.h with
 | [.float .f32 x0], [] => [(true, .tuple #[.float .f32 ((r37 x0).1), .int .i64 ((r37 x0).2)], st0)]
 | _, _ => T49 37 args s
noncomputable def T50 : CallF := addF T49 37 s37
set_option maxRecDepth 100000 in
set_option maxHeartbeats 4000000 in
theorem ok50 : CfOk Try.prog T50 := by
  refine cfOk_add ok49 fun args s r s' h1 h2 h3 => ?_
  unfold s37 at h3; split at h3
  · rename_i h; exact callOk ok49 Try.func37 h1 h2 h (lfOkF_no _ _).body (e37 _) rfl h3
  · exact ok49 _ _ _ _ _ h1 h2 h3

/-- impl.WidthOf -/
noncomputable def r19 (x0 x1 : Nat) : Nat × Int :=
 cond (!(r16 x0 x1))
  (0, 1)
  (((r37 (fsub .f32 x1 x0)).1), ((r37 (fsub .f32 x1 x0)).2))
noncomputable def a19 (x0 x1 : Nat) (p : Nat × Int) : Res := firstT [(true, .tuple #[.float .f32 (p.1), .int .i64 (p.2)], st0)]
noncomputable def w19 (x0 x1 : Nat) : Res :=
 (cond (!(r16 x0 x1))
 (a19 x0 x1 (0, 1))
 (a19 x0 x1 (((r37 (fsub .f32 x1 x0)).1), ((r37 (fsub .f32 x1 x0)).2))))
set_option maxRecDepth 100000 in
set_option maxHeartbeats 4000000 in
theorem e19 (x0 x1 : Nat) : evFn Try.prog ext T50 noL 200 Try.f19 [.agg #[.float .f32 x0, .float .f32 x1]] st0 = firstT [(true, .tuple #[.float .f32 ((r19 x0 x1).1), .int .i64 ((r19 x0 x1).2)], st0)] :=
 (show evFn Try.prog ext T50 noL 200 Try.f19 [.agg #[.float .f32 x0, .float .f32 x1]] st0 = w19 x0 x1 from by kernel_rfl).trans
 (show w19 x0 x1 = a19 x0 x1 (r19 x0 x1) from by unfold w19 r19; exact (cond_app (a19 x0 x1) _ rfl rfl))
noncomputable def s19 (args : List Value) (s : St) : List (Bool × Value × St) :=
 match args, s.h with
 | [.agg ⟨[.float .f32 x0, .float .f32 x1]⟩], [] => [(true, .tuple #[.float .f32 ((r19 x0 x1).1), .int .i64 ((r19 x0 x1).2)], st0)]
 | _, _ => T50 19 args s
noncomputable def T51 : CallF := addF T50 19 s19
set_option maxRecDepth 100000 in
set_option maxHeartbeats 4000000 in
theorem ok51 : CfOk Try.prog T51 := by
  refine cfOk_add ok50 fun args s r s' h1 h2 h3 => ?_
  unfold s19 at h3; split at h3
  · rename_i h; exact callOk ok50 Try.func19 h1 h2 h (lfOkF_no _ _).body (e19 _ _) rfl h3
  · exact ok50 _ _ _ _ _ h1 h2 h3

/-- impl.joinSpans -/
noncomputable def r38 (x0 x1 x2 x3 : Nat) : Nat × Nat :=
 ((r41 x0 x2), (r40 x1 x3))
noncomputable def a38 (x0 x1 x2 x3 : Nat) (p : Nat × Nat) : Res := firstT [(true, .agg #[.float .f32 (p.1), .float .f32 (p.2)], st0)]
noncomputable def w38 (x0 x1 x2 x3 : Nat) : Res :=
 (a38 x0 x1 x2 x3 ((r41 x0 x2), (r40 x1 x3)))
set_option maxRecDepth 100000 in
set_option maxHeartbeats 4000000 in
theorem e38 (x0 x1 x2 x3 : Nat) : evFn Try.prog ext T51 noL 200 Try.f38 [.agg #[.float .f32 x0, .float .f32 x1], .agg #[.float .f32 x2, .float .f32 x3]] st0 = firstT [(true, .agg #[.float .f32 ((r38 x0 x1 x2 x3).1), .float .f32 ((r38 x0 x1 x2 x3).2)], st0)] :=
 (show evFn Try.prog ext T51 noL 200 Try.f38 [.agg #[.float .f32 x0, .float .f32 x1], .agg #[.float .f32 x2, .float .f32 x3]] st0 = w38 x0 x1 x2 x3 from by kernel_rfl).trans
 (show w38 x0 x1 x2 x3 = a38 x0 x1 x2 x3 (r38 x0 x1 x2 x3) from by unfold w38 r38; exact rfl)
noncomputable def s38 (args : List Value) (s : St) : List (Bool × Value × St) :=
 match args, s.h with
 | [.agg ⟨[.float .f32 x0, .float .f32 x1]⟩, .agg ⟨[.float .f32 x2, .float .f32 x3]⟩], [] => [(true, .agg #[.float .f32 ((r38 x0 x1 x2 x3).1), .float .f32 ((r38 x0 x1 x2 x3).2)], st0)]
 | _, _ => T51 38 args s
noncomputable def T52 : CallF := addF T51 38 s38
set_option maxRecDepth 100000 in
set_option maxHeartbeats 4000000 in
theorem ok52 : CfOk Try.prog T52 := by
  refine cfOk_add ok51 fun args s r s' h1 h2 h3 => ?_
  unfold s38 at h3; split at h3
  · rename_i h; exact callOk ok51 Try.func38 h1 h2 h (lfOkF_no _ _).body (e38 _ _ _ _) rfl h3
  · exact ok51 _ _ _ _ _ h1 h2 h3

/-- impl.onSpans -/
noncomputable def r31d (x0 x1 x2 x3 : Nat) : Nat × Nat × Int :=
 cond (!(r39 x0 x1 x2 x3))
  (0, 0, 1)
  (((r38 x0 x1 x2 x3).1), ((r38 x0 x1 x2 x3).2), 0)
noncomputable def a31d (x0 x1 x2 x3 : Nat) (p : Nat × Nat × Int) : Res := firstT [(true, .tuple #[.agg #[.float .f32 (p.1), .float .f32 (p.2.1)], .int .i64 (p.2.2)], st0)]
noncomputable def w31d (x0 x1 x2 x3 : Nat) : Res :=
 (cond (!(r39 x0 x1 x2 x3))
 (a31d x0 x1 x2 x3 (0, 0, 1))
 (a31d x0 x1 x2 x3 (((r38 x0 x1 x2 x3).1), ((r38 x0 x1 x2 x3).2), 0)))
set_option maxRecDepth 100000 in
set_option maxHeartbeats 4000000 in
theorem e31d (x0 x1 x2 x3 : Nat) : evFn Try.prog ext T52 noL 200 Try.f31 [.agg #[.float .f32 x0, .float .f32 x1], .agg #[.float .f32 x2, .float .f32 x3], .func (.func 38) #[] #[]] st0 = firstT [(true, .tuple #[.agg #[.float .f32 ((r31d x0 x1 x2 x3).1), .float .f32 ((r31d x0 x1 x2 x3).2.1)], .int .i64 ((r31d x0 x1 x2 x3).2.2)], st0)] :=
 (show evFn Try.prog ext T52 noL 200 Try.f31 [.agg #[.float .f32 x0, .float .f32 x1], .agg #[.float .f32 x2, .float .f32 x3], .func (.func 38) #[] #[]] st0 = w31d x0 x1 x2 x3 from by kernel_rfl).trans
 (show w31d x0 x1 x2 x3 = a31d x0 x1 x2 x3 (r31d x0 x1 x2 x3) from by unfold w31d r31d; exact (cond_app (a31d x0 x1 x2 x3) _ rfl rfl))
noncomputable def s31d (args : List Value) (s : St) : List (Bool × Value × St) :=
 match args, s.h with
 | [.agg ⟨[.float .f32 x0, .float .f32 x1]⟩, .agg ⟨[.float .f32 x2, .float .f32 x3]⟩, .func (.func f0) ⟨[]⟩ ⟨[]⟩], [] => if f0 = 38 then [(true, .tuple #[.agg #[.float .f32 ((r31d x0 x1 x2 x3).1), .float .f32 ((r31d x0 x1 x2 x3).2.1)], .int .i64 ((r31d x0 x1 x2 x3).2.2)], st0)] else T52 31 args s
 | _, _ => T52 31 args s
noncomputable def T53 : CallF := addF T52 31 s31d
set_option maxRecDepth 100000 in
set_option maxHeartbeats 4000000 in
theorem ok53 : CfOk Try.prog T53 := by
  refine cfOk_add ok52 fun args s r s' h1 h2 h3 => ?_
  unfold s31d at h3; split at h3
  · rename_i h; split at h3
    · rename_i hc; obtain ⟨rfl⟩ := hc; exact callOk ok52 Try.func31 h1 h2 h (lfOkF_no _ _).body (e31d _ _ _ _) rfl h3
    · exact ok52 _ _ _ _ _ h1 h2 h3
  · exact ok52 _ _ _ _ _ h1 h2 h3

/-- impl.JoinSpans -/
noncomputable def r20 (x0 x1 x2 x3 : Nat) : Nat × Nat × Int :=
 (((r31d x0 x1 x2 x3).1), ((r31d x0 x1 x2 x3).2.1), ((r31d x0 x1 x2 x3).2.2))
noncomputable def a20 (x0 x1 x2 x3 : Nat) (p : Nat × Nat × Int) : Res := firstT [(true, .tuple #[.agg #[.float .f32 (p.1), .float .f32 (p.2.1)], .int .i64 (p.2.2)], st0)]
noncomputable def w20 (x0 x1 x2 x3 : Nat) : Res :=
 (a20 x0 x1 x2 x3 (((r31d x0 x1 x2 x3).1), ((r31d x0 x1 x2 x3).2.1), ((r31d x0 x1 x2 x3).2.2)))
set_option maxRecDepth 100000 in
set_option maxHeartbeats 4000000 in
theorem e20 (x0 x1 x2 x3 : Nat) : evFn Try.prog ext T53 noL 200 Try.f20 [.agg #[.float .f32 x0, .float .f32 x1], .agg #[.float .f32 x2, .float .f32 x3]] st0 = firstT [(true, .tuple #[.agg #[.float .f32 ((r20 x0 x1 x2 x3).1), .float .f32 ((r20 x0 x1 x2 x3).2.1)], .int .i64 ((r20 x0 x1 x2 x3).2.2)], st0)] :=
 (show evFn Try.prog ext T53 noL 200 Try.f20 [.agg #[.float .f32 x0, .float .f32 x1], .agg #[.float .f32 x2, .float .f32 x3]] st0 = w20 x0 x1 x2 x3 from by kernel_rfl).trans
 (show w20 x0 x1 x2 x3 = a20 x0 x1 x2 x3 (r20 x0 x1 x2 x3) from by unfold w20 r20; exact rfl)
noncomputable def s20 (args : List Value) (s : St) : List (Bool × Value × St) :=
 match args, s.h with
 | [.agg ⟨[.float .f32 x0, .float .f32 x1]⟩, .agg ⟨[.float .f32 x2, .float .f32 x3]⟩], [] => [(true, .tuple #[.agg #[.float .f32 ((r20 x0 x1 x2 x3).1), .float .f32 ((r20 x0 x1 x2 x3).2.1)], .int .i64 ((r20 x0 x1 x2 x3).2.2)], st0)]
 | _, _ => T53 20 args s
noncomputable def T54 : CallF := addF T53 20 s20
set_option maxRecDepth 100000 in
set_option maxHeartbeats 4000000 in
theorem ok54 : CfOk Try.prog T54 := by
  refine cfOk_add ok53 fun args s r s' h1 h2 h3 => ?_
  unfold s20 at h3; split at h3
  · rename_i h; exact callOk ok53 Try.func20 h1 h2 h (lfOkF_no _ _).body (e20 _ _ _ _) rfl h3
  · exact ok53 _ _ _ _ _ h1 h2 h3

/-- impl.MeetSpans -/
noncomputable def r21 (x0 x1 x2 x3 : Nat) : Nat × Nat × Int :=
 cond (!(r39 x0 x1 x2 x3))
  (0, 0, 1)
  (cond (!(r16 (r40 x0 x2) (r41 x1 x3)))
   (0, 0, 6)
   ((r40 x0 x2), (r41 x1 x3), 0))
noncomputable def a21 (x0 x1 x2 x3 : Nat) (p : Nat × Nat × Int) : Res := firstT [(true, .tuple #[.agg #[.float .f32 (p.1), .float .f32 (p.2.1)], .int .i64 (p.2.2)], st0)]
noncomputable def w21 (x0 x1 x2 x3 : Nat) : Res :=
 (cond (!(r39 x0 x1 x2 x3))
 (a21 x0 x1 x2 x3 (0, 0, 1))
 (cond (!(r16 (r40 x0 x2) (r41 x1 x3)))
  (a21 x0 x1 x2 x3 (0, 0, 6))
  (a21 x0 x1 x2 x3 ((r40 x0 x2), (r41 x1 x3), 0))))
set_option maxRecDepth 100000 in
set_option maxHeartbeats 4000000 in
theorem e21 (x0 x1 x2 x3 : Nat) : evFn Try.prog ext T54 noL 200 Try.f21 [.agg #[.float .f32 x0, .float .f32 x1], .agg #[.float .f32 x2, .float .f32 x3]] st0 = firstT [(true, .tuple #[.agg #[.float .f32 ((r21 x0 x1 x2 x3).1), .float .f32 ((r21 x0 x1 x2 x3).2.1)], .int .i64 ((r21 x0 x1 x2 x3).2.2)], st0)] :=
 (show evFn Try.prog ext T54 noL 200 Try.f21 [.agg #[.float .f32 x0, .float .f32 x1], .agg #[.float .f32 x2, .float .f32 x3]] st0 = w21 x0 x1 x2 x3 from by kernel_rfl).trans
 (show w21 x0 x1 x2 x3 = a21 x0 x1 x2 x3 (r21 x0 x1 x2 x3) from by unfold w21 r21; exact (cond_app (a21 x0 x1 x2 x3) _ rfl (cond_app (a21 x0 x1 x2 x3) _ rfl rfl)))
noncomputable def s21 (args : List Value) (s : St) : List (Bool × Value × St) :=
 match args, s.h with
 | [.agg ⟨[.float .f32 x0, .float .f32 x1]⟩, .agg ⟨[.float .f32 x2, .float .f32 x3]⟩], [] => [(true, .tuple #[.agg #[.float .f32 ((r21 x0 x1 x2 x3).1), .float .f32 ((r21 x0 x1 x2 x3).2.1)], .int .i64 ((r21 x0 x1 x2 x3).2.2)], st0)]
 | _, _ => T54 21 args s
noncomputable def T55 : CallF := addF T54 21 s21
set_option maxRecDepth 100000 in
set_option maxHeartbeats 4000000 in
theorem ok55 : CfOk Try.prog T55 := by
  refine cfOk_add ok54 fun args s r s' h1 h2 h3 => ?_
  unfold s21 at h3; split at h3
  · rename_i h; exact callOk ok54 Try.func21 h1 h2 h (lfOkF_no _ _).body (e21 _ _ _ _) rfl h3
  · exact ok54 _ _ _ _ _ h1 h2 h3

/-- impl.lessSpans -/
noncomputable def r42 (x0 x1 x2 x3 : Nat) : Nat × Nat :=
 cond (flt .f32 x1 x2)
  (1065353216, 1065353216)
  (cond (fgt .f32 x0 x3 || feq .f32 x0 x3)
   (0, 0)
   (0, 1065353216))
noncomputable def a42 (x0 x1 x2 x3 : Nat) (p : Nat × Nat) : Res := firstT [(true, .agg #[.float .f32 (p.1), .float .f32 (p.2)], st0)]
noncomputable def w42 (x0 x1 x2 x3 : Nat) : Res :=
 (cond (flt .f32 x1 x2)
 (a42 x0 x1 x2 x3 (1065353216, 1065353216))
 (cond (fgt .f32 x0 x3 || feq .f32 x0 x3)
  (a42 x0 x1 x2 x3 (0, 0))
  (a42 x0 x1 x2 x3 (0, 1065353216))))
set_option maxRecDepth 100000 in
set_option maxHeartbeats 4000000 in
theorem e42 (x0 x1 x2 x3 : Nat) : evFn Try.prog ext T55 noL 200 Try.f42 [.agg #[.float .f32 x0, .float .f32 x1], .agg #[.float .f32 x2, .float .f32 x3]] st0 = firstT [(true, .agg #[.float .f32 ((r42 x0 x1 x2 x3).1), .float .f32 ((r42 x0 x1 x2 x3).2)], st0)] :=
 (show evFn Try.prog ext T55 noL 200 Try.f42 [.agg #[.float .f32 x0, .float .f32 x1], .agg #[.float .f32 x2, .float .f32 x3]] st0 = w42 x0 x1 x2 x3 from by kernel_rfl).trans
 (show w42 x0 x1 x2 x3 = a42 x0 x1 x2 x3 (r42 x0 x1 x2 x3) from by unfold w42 r42; exact (cond_app (a42 x0 x1 x2 x3) _ rfl (cond_app (a42 x0 x1 x2 x3) _ rfl rfl)))
noncomputable def s42 (args : List Value) (s : St) : List (Bool × Value × St) :=
 match args, s.h with
 | [.agg ⟨[.float .f32 x0, .float .f32 x1]⟩, .agg ⟨[.float .f32 x2, .float .f32 x3]⟩], [] => [(true, .agg #[.float .f32 ((r42 x0 x1 x2 x3).1), .float .f32 ((r42 x0 x1 x2 x3).2)], st0)]
 | _, _ => T55 42 args s
noncomputable def T56 : CallF := addF T55 42 s42
set_option maxRecDepth 100000 in
set_option maxHeartbeats 4000000 in
theorem ok56 : CfOk Try.prog T56 := by
  refine cfOk_add ok55 fun args s r s' h1 h2 h3 => ?_
  unfold s42 at h3; split at h3
  · rename_i h; exact callOk ok55 Try.func42 h1 h2 h (lfOkF_no _ _).body (e42 _ _ _ _) rfl h3
  · exact ok55 _ _ _ _ _ h1 h2 h3

/-- impl.onSpans -/
noncomputable def r31e (x0 x1 x2 x3 : Nat) : Nat × Nat × Int :=
 cond (!(r39 x0 x1 x2 x3))
  (0, 0, 1)
  (((r42 x0 x1 x2 x3).1), ((r42 x0 x1 x2 x3).2), 0)
noncomputable def a31e (x0 x1 x2 x3 : Nat) (p : Nat × Nat × Int) : Res := firstT [(true, .tuple #[.agg #[.float .f32 (p.1), .float .f32 (p.2.1)], .int .i64 (p.2.2)], st0)]
noncomputable def w31e (x0 x1 x2 x3 : Nat) : Res :=
 (cond (!(r39 x0 x1 x2 x3))
 (a31e x0 x1 x2 x3 (0, 0, 1))
 (a31e x0 x1 x2 x3 (((r42 x0 x1 x2 x3).1), ((r42 x0 x1 x2 x3).2), 0)))
set_option maxRecDepth 100000 in
set_option maxHeartbeats 4000000 in
theorem e31e (x0 x1 x2 x3 : Nat) : evFn Try.prog ext T56 noL 200 Try.f31 [.agg #[.float .f32 x0, .float .f32 x1], .agg #[.float .f32 x2, .float .f32 x3], .func (.func 42) #[] #[]] st0 = firstT [(true, .tuple #[.agg #[.float .f32 ((r31e x0 x1 x2 x3).1), .float .f32 ((r31e x0 x1 x2 x3).2.1)], .int .i64 ((r31e x0 x1 x2 x3).2.2)], st0)] :=
 (show evFn Try.prog ext T56 noL 200 Try.f31 [.agg #[.float .f32 x0, .float .f32 x1], .agg #[.float .f32 x2, .float .f32 x3], .func (.func 42) #[] #[]] st0 = w31e x0 x1 x2 x3 from by kernel_rfl).trans
 (show w31e x0 x1 x2 x3 = a31e x0 x1 x2 x3 (r31e x0 x1 x2 x3) from by unfold w31e r31e; exact (cond_app (a31e x0 x1 x2 x3) _ rfl rfl))
noncomputable def s31e (args : List Value) (s : St) : List (Bool × Value × St) :=
 match args, s.h with
 | [.agg ⟨[.float .f32 x0, .float .f32 x1]⟩, .agg ⟨[.float .f32 x2, .float .f32 x3]⟩, .func (.func f0) ⟨[]⟩ ⟨[]⟩], [] => if f0 = 42 then [(true, .tuple #[.agg #[.float .f32 ((r31e x0 x1 x2 x3).1), .float .f32 ((r31e x0 x1 x2 x3).2.1)], .int .i64 ((r31e x0 x1 x2 x3).2.2)], st0)] else T56 31 args s
 | _, _ => T56 31 args s
noncomputable def T57 : CallF := addF T56 31 s31e
set_option maxRecDepth 100000 in
set_option maxHeartbeats 4000000 in
theorem ok57 : CfOk Try.prog T57 := by
  refine cfOk_add ok56 fun args s r s' h1 h2 h3 => ?_
  unfold s31e at h3; split at h3
  · rename_i h; split at h3
    · rename_i hc; obtain ⟨rfl⟩ := hc; exact callOk ok56 Try.func31 h1 h2 h (lfOkF_no _ _).body (e31e _ _ _ _) rfl h3
    · exact ok56 _ _ _ _ _ h1 h2 h3
  · exact ok56 _ _ _ _ _ h1 h2 h3

/-- impl.LessSpans -/
noncomputable def r22 (x0 x1 x2 x3 : Nat) : Nat × Nat × Int :=
 (((r31e x0 x1 x2 x3).1), ((r31e x0 x1 x2 x3).2.1), ((r31e x0 x1 x2 x3).2.2))
noncomputable def a22 (x0 x1 x2 x3 : Nat) (p : Nat × Nat × Int) : Res := firstT [(true, .tuple #[.agg #[.float .f32 (p.1), .float .f32 (p.2.1)], .int .i64 (p.2.2)], st0)]
noncomputable def w22 (x0 x1 x2 x3 : Nat) : Res :=
 (a22 x0 x1 x2 x3 (((r31e x0 x1 x2 x3).1), ((r31e x0 x1 x2 x3).2.1), ((r31e x0 x1 x2 x3).2.2)))
set_option maxRecDepth 100000 in
set_option maxHeartbeats 4000000 in
theorem e22 (x0 x1 x2 x3 : Nat) : evFn Try.prog ext T57 noL 200 Try.f22 [.agg #[.float .f32 x0, .float .f32 x1], .agg #[.float .f32 x2, .float .f32 x3]] st0 = firstT [(true, .tuple #[.agg #[.float .f32 ((r22 x0 x1 x2 x3).1), .float .f32 ((r22 x0 x1 x2 x3).2.1)], .int .i64 ((r22 x0 x1 x2 x3).2.2)], st0)] :=
 (show evFn Try.prog ext T57 noL 200 Try.f22 [.agg #[.float .f32 x0, .float .f32 x1], .agg #[.float .f32 x2, .float .f32 x3]] st0 = w22 x0 x1 x2 x3 from by kernel_rfl).trans
 (show w22 x0 x1 x2 x3 = a22 x0 x1 x2 x3 (r22 x0 x1 x2 x3) from by unfold w22 r22; exact rfl)
noncomputable def s22 (args : List Value) (s : St) : List (Bool × Value × St) :=
 match args, s.h with
 | [.agg ⟨[.float .f32 x0, .float .f32 x1]⟩, .agg ⟨[.float .f32 x2, .float .f32 x3]⟩], [] => [(true, .tuple #[.agg #[.float .f32 ((r22 x0 x1 x2 x3).1), .float .f32 ((r22 x0 x1 x2 x3).2.1)], .int .i64 ((r22 x0 x1 x2 x3).2.2)], st0)]
 | _, _ => T57 22 args s
noncomputable def T58 : CallF := addF T57 22 s22
set_option maxRecDepth 100000 in
set_option maxHeartbeats 4000000 in
theorem ok58 : CfOk Try.prog T58 := by
  refine cfOk_add ok57 fun args s r s' h1 h2 h3 => ?_
  unfold s22 at h3; split at h3
  · rename_i h; exact callOk ok57 Try.func22 h1 h2 h (lfOkF_no _ _).body (e22 _ _ _ _) rfl h3
  · exact ok57 _ _ _ _ _ h1 h2 h3
end Go.Proofs.Ytgkmmkimpmnpkaa
