/- Spans: the program's and the reference's. -/
import Derived.Test.YtfclciebpnnieaaPni1
import Derived.Test.YtfclciebpnnieaaA22
namespace Go.Proofs.Ytfclciebpnnieaa
open Go.Ab

theorem wrap_u32 (n : Int) (h1 : 0 ≤ n) (h2 : n < 4294967296) : IntKind.u32.wrap n = n := by
  unfold IntKind.wrap
  simp [IntKind.bits, IntKind.signed]
  omega
theorem isInf_up (a : Nat) (h : a < 4294967296) (hn : isN .f32 a = false) : r80 (widen a) 1 = decide (a = 2139095040) := by
  rw [← widen_top a h hn]; rfl
theorem up_eq (a : Nat) (h : a < 4294967296) : r118 a = r113 a := by
  unfold r118 r113
  cases hn : isN .f32 a with
  | true =>
    rw [feq_self, hn]
    rfl
  | false =>
    have z : isN .f32 0 = false := by decide
    have t : isN .f32 2139095039 = false := by decide
    rw [feq_self, hn, isInf_up a h hn, fgt_key .f32 a _ hn t, fgt_key .f32 a _ hn z, feq_key .f32 a _ hn z]
    rw [key32 a h, key32 0 (by decide), key32 2139095039 (by decide)]
    rw [isN32, decide_eq_false_iff_not] at hn
    have e31 : (min (31 : Int).toNat (IntKind.bits .u32)) = 31 := by decide
    rw [e31]
    have ef : Int.fdiv (a : Int) (2 ^ 31) = ((a / 2147483648 : Nat) : Int) := by
      rw [Int.fdiv_eq_ediv_of_nonneg _ (by decide)]; rfl
    rw [ef]
    simp only [Bool.not_false, Bool.not_true, cond_true, cond_false]
    by_cases h1 : a = 2139095040
    · subst h1; simp
    · by_cases h2 : a = 0
      · subst h2; simp [wrap_u32]
      · by_cases h3 : a = 2147483648
        · subst h3; simp
        · by_cases h4 : 2147483648 ≤ a
          · have g1 : (a / 2147483648 : Nat) ≠ 0 := by omega
            have g2 : ¬ ((2139095039 : Int) < 2147483648 - (a : Int)) := by omega
            have g3 : ¬ ((2147483648 : Int) - (a : Int) = 0) := by omega
            have g4 : ¬ ((0 : Int) < 2147483648 - (a : Int)) := by omega
            have g5 : ¬ ((a : Int) = 2147483648) := by omega
            have g6 : (((a / 2147483648 : Nat) : Int) != 0) = true := by rw [bne_iff_ne]; omega
            simp only [g6, if_pos h4]
            have g7 : ((a : Int) == 2147483648) = false := by rw [beq_eq_false_iff_ne]; exact g5
            have g8 : ¬ ((a : Int) < 2147483648) := by omega
            simp [h1, g2, g3, g7, g8]
          · have g1 : a / 2147483648 = 0 := by omega
            have g2 : ¬ ((2139095039 : Int) < (a : Int)) := by omega
            have g5 : ¬ ((a : Int) = 2147483648) := by omega
            have g4 : (0 : Int) < (a : Int) := by omega
            have g3 : ¬ ((a : Int) = 0) := by omega
            simp only [if_neg h4, g1]
            have g7 : ((a : Int) == 2147483648) = false := by rw [beq_eq_false_iff_ne]; exact g5
            have g8 : 0 < a := by omega
            simp [h1, g2, h2, g7, g8]
theorem neg_lt (a : Nat) (h : a < 4294967296) : fneg .f32 a < 4294967296 := by
  unfold fneg Op.negFloat
  exact Nat.xor_lt_two_pow (n := 32) h (by decide)
theorem down_eq (a : Nat) (h : a < 4294967296) : r117 a = r112 a := by
  unfold r117 r112
  rw [up_eq _ (neg_lt a h)]
theorem nw1 : narrowOk (r111 (-1)) = true := by decide +kernel
theorem nw2 : narrowOk (r111 1) = true := by decide +kernel
theorem inf1 : r116 (-1) = (0, narrow (r111 (-1))) := by unfold r116; rw [nw1]; rfl
theorem inf2 : r116 1 = (0, narrow (r111 1)) := by unfold r116; rw [nw2]; rfl
theorem low_eq (a : Nat) (h : a < 4294967296) : r114 a = r109 a := by
  unfold r114 r109; rw [down_eq a h, inf1, nw1]; rfl
theorem high_eq (a : Nat) (h : a < 4294967296) : r115 a = r110 a := by
  unfold r115 r110; rw [up_eq a h, inf2, nw2]; rfl
theorem low0 (a : Nat) : (r109 a).1 = 0 := by
  unfold r109; rw [nw1]; cases feq .f32 a a <;> rfl
theorem high0 (a : Nat) : (r110 a).1 = 0 := by
  unfold r110; rw [nw2]; cases feq .f32 a a <;> rfl
theorem add_eq (a b c d : Nat) : r102 a b c d = r98 a b c d := by
  unfold r102 r98; rw [low_eq _ (fadd_lt _ _), high_eq _ (fadd_lt _ _)]
theorem sub_eq (a b c d : Nat) : r103 a b c d = r99 a b c d := by
  unfold r103 r99; rw [low_eq _ (fsub_lt _ _), high_eq _ (fsub_lt _ _)]
theorem add0 (a b c d : Nat) : (r98 a b c d).1 = 0 := by
  unfold r98; rw [low0, high0]; rfl
theorem sub0 (a b c d : Nat) : (r99 a b c d).1 = 0 := by
  unfold r99; rw [low0, high0]; rfl

/-- one more product, and what is done with the least and the greatest of all -/
noncomputable def more (k : Nat → Nat → Nat × Nat × Nat) (s low high : Nat) : Nat × Nat × Nat :=
  cond (!feq .f32 s s) (0, narrow (r111 (-1)), narrow (r111 1)) (k (r95 low s) (r96 high s))
theorem more_ev (k : Nat → Nat → Nat × Nat × Nat) (s low high : Nat) : more k s low high = cond (!feq .f32 s s) (0, narrow (r111 (-1)), narrow (r111 1)) (cond (flt .f32 s low) (cond (fgt .f32 s high) (k s s) (k s high)) (cond (fgt .f32 s high) (k low s) (k low high))) := by
  unfold more r95 r96
  cases feq .f32 s s <;> cases flt .f32 s low <;> cases fgt .f32 s high <;> rfl
noncomputable def K0 (l h : Nat) : Nat × Nat × Nat := (0, r112 l, r113 h)
noncomputable def outB (p : Nat × Nat × Nat × Nat × Nat) : Nat × Nat × Nat := cond (Nat.beq p.1 0) (0, p.2.1, p.2.2.1) (cond (Nat.beq p.1 1) (0, r112 p.2.2.2.1, r113 p.2.2.2.2) (1, 0, 0))
noncomputable def outC (p : Nat × Nat × Nat × Nat × Nat × Nat × Nat) : Nat × Nat × Nat := cond (Nat.beq p.1 0) (0, p.2.2.2.1, p.2.2.2.2.1) (cond (Nat.beq p.1 1) (0, r112 p.2.2.2.2.2.1, r113 p.2.2.2.2.2.2) (1, 0, 0))
theorem passB (p : Nat × Nat × Nat × Nat × Nat) (a b : Nat) : outC (cond (Nat.beq p.1 0) (0, a, b, p.2.1, p.2.2.1, 0, 0) (cond (Nat.beq p.1 1) (1, 0, 0, 0, 0, p.2.2.2.1, p.2.2.2.2) (2, 0, 0, 0, 0, 0, 0))) = outB p := by
  unfold outB
  cases Nat.beq p.1 0 <;> cases Nat.beq p.1 1 <;> rfl
theorem passC (p : Nat × Nat × Nat × Nat × Nat × Nat × Nat) : outC (cond (Nat.beq p.1 0) (0, p.2.1, p.2.2.1, p.2.2.2.1, p.2.2.2.2.1, 0, 0) (cond (Nat.beq p.1 1) (1, 0, 0, 0, 0, p.2.2.2.2.2.1, p.2.2.2.2.2.2) (2, 0, 0, 0, 0, 0, 0))) = outC p := by
  conv => rhs; unfold outC
  cases Nat.beq p.1 0 <;> cases Nat.beq p.1 1 <;> rfl
theorem mB (x0 x1 x2 x3 x4 x5 x6 x7 : Nat) : outB (r100l0b x0 x1 x2 x3 x4 x5 x6 x7) = more K0 x7 x0 x1 := by
  rw [more_ev]
  unfold r100l0b
  rw [nw1, nw2]
  cases feq .f32 x7 x7 <;> cases flt .f32 x7 x0 <;> cases fgt .f32 x7 x1 <;> rfl
theorem mC (x0 x1 x2 x3 x4 x5 x6 x7 : Nat) : outC (r100l0c x0 x1 x2 x3 x4 x5 x6 x7) = more (more K0 x7) x6 x0 x1 := by
  rw [more_ev]
  unfold r100l0c
  rw [nw1, nw2]
  cases feq .f32 x6 x6
  · rfl
  · cases flt .f32 x6 x0 <;> cases fgt .f32 x6 x1 <;> (show outC (cond _ _ _) = _) <;> exact (passB _ _ _).trans (mB _ _ _ _ _ _ _ _)
theorem mD (x0 x1 x2 x3 x4 x5 x6 x7 : Nat) : outC (r100l0d x0 x1 x2 x3 x4 x5 x6 x7) = more (more (more K0 x7) x6) x5 x0 x1 := by
  rw [more_ev]
  unfold r100l0d
  rw [nw1, nw2]
  cases feq .f32 x5 x5
  · rfl
  · cases flt .f32 x5 x0 <;> cases fgt .f32 x5 x1 <;> (show outC (cond _ _ _) = _) <;> exact (passC _).trans (mC _ _ _ _ _ _ _ _)
theorem mE (x0 x1 x2 x3 x4 x5 x6 x7 : Nat) : outC (r100l0e x0 x1 x2 x3 x4 x5 x6 x7) = more (more (more (more K0 x7) x6) x5) x4 x0 x1 := by
  rw [more_ev]
  unfold r100l0e
  rw [nw1, nw2]
  cases feq .f32 x4 x4
  · rfl
  · cases flt .f32 x4 x0 <;> cases fgt .f32 x4 x1 <;> (show outC (cond _ _ _) = _) <;> exact (passC _).trans (mD _ _ _ _ _ _ _ _)
theorem mul_spec (a b c d : Nat) : r100 a b c d = more (more (more (more K0 (fmul .f32 b d)) (fmul .f32 b c)) (fmul .f32 a d)) (fmul .f32 a c) (fmul .f32 a c) (fmul .f32 a c) := by
  rw [← mE (fmul .f32 a c) (fmul .f32 a c) 0 0 (fmul .f32 a c) (fmul .f32 a d) (fmul .f32 b c) (fmul .f32 b d)]
  rfl
theorem least_lt (a b : Nat) (ha : a < 4294967296) (hb : b < 4294967296) : r95 a b < 4294967296 := by
  unfold r95; cases flt .f32 b a
  · exact ha
  · exact hb
theorem most_lt (a b : Nat) (ha : a < 4294967296) (hb : b < 4294967296) : r96 a b < 4294967296 := by
  unfold r96; cases fgt .f32 b a
  · exact ha
  · exact hb
theorem mul_eq (a b c d : Nat) : r104 a b c d = r100 a b c d := by
  rw [mul_spec]
  unfold r104
  have h1 := fmul_lt a c
  have h2 := fmul_lt a d
  have h3 := fmul_lt b c
  have h4 := fmul_lt b d
  generalize fmul .f32 a c = p at *
  generalize fmul .f32 a d = q at *
  generalize fmul .f32 b c = r at *
  generalize fmul .f32 b d = s at *
  unfold more K0
  rw [inf1, inf2, down_eq _ (least_lt _ _ (least_lt _ _ (least_lt _ _ (least_lt _ _ h1 h1) h2) h3) h4), up_eq _ (most_lt _ _ (most_lt _ _ (most_lt _ _ (most_lt _ _ h1 h1) h2) h3) h4)]
  rfl
theorem more0 (k : Nat → Nat → Nat × Nat × Nat) (hk : ∀ l h, (k l h).1 = 0) (s low high : Nat) : (more k s low high).1 = 0 := by
  unfold more
  cases feq .f32 s s
  · rfl
  · exact hk _ _
theorem mul0 (a b c d : Nat) : (r100 a b c d).1 = 0 := by
  rw [mul_spec]
  exact more0 _ (more0 _ (more0 _ (more0 _ (fun _ _ => rfl) _) _) _) _ _ _
theorem over0 (k : Int) (a b c d : Nat) : (r87 k a b c d).1 = 0 := by
  unfold r87
  rw [add0, sub0, mul0]
  cases k == 5 <;> cases k == 6 <;> cases k == 7 <;> cases k == 9 <;> cases k == 10 <;> rfl
end Go.Proofs.Ytfclciebpnnieaa
