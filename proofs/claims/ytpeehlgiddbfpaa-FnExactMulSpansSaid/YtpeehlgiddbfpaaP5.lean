/- The plain laws of the next number up and down. -/
import Derived.Test.YtpeehlgiddbfpaaP4
import Derived.Test.YtpeehlgiddbfpaaA21
namespace Go.Proofs.Ytpeehlgiddbfpaa
open Go.Ab
theorem wrap_u32 (n : Int) (h1 : 0 ≤ n) (h2 : n < 4294967296) : IntKind.u32.wrap n = n := by
  unfold IntKind.wrap
  simp [IntKind.bits, IntKind.signed]
  omega
theorem isInf_up (a : Nat) (h : a < 4294967296) (hn : isN .f32 a = false) : r49 (widen a) 1 = decide (a = 2139095040) := by
  rw [← widen_top a h hn]; rfl
theorem up_eq (a : Nat) (h : a < 4294967296) : r21 a = r20 a := by
  unfold r20 r47 r21
  cases hn : isN .f32 a with
  | true =>
    rw [feq_self, hn]
    rfl
  | false =>
    have z : isN .f32 0 = false := by decide
    have t : isN .f32 2139095039 = false := by decide
    rw [feq_self, hn, isInf_up a h hn, fgt_key .f32 a _ hn t, fgt_key .f32 a _ hn z, feq_key .f32 a _ hn z]
    rw [key32 a h, key32 0 (by decide), key32 2139095039 (by decide)]
    rw [isN32, decide_eq_false_iff_not] at hn
    have e31 : (min (31 : Int).toNat (IntKind.bits .u32)) = 31 := by decide
    rw [e31]
    have ef : Int.fdiv (a : Int) (2 ^ 31) = ((a / 2147483648 : Nat) : Int) := by
      rw [Int.fdiv_eq_ediv_of_nonneg _ (by decide)]; rfl
    rw [ef]
    simp only [Bool.not_false, Bool.not_true, cond_true, cond_false]
    by_cases h1 : a = 2139095040
    · subst h1; simp
    · by_cases h2 : a = 0
      · subst h2; simp [wrap_u32]
      · by_cases h3 : a = 2147483648
        · subst h3; simp
        · by_cases h4 : 2147483648 ≤ a
          · have g1 : (a / 2147483648 : Nat) ≠ 0 := by omega
            have g2 : ¬ ((2139095039 : Int) < 2147483648 - (a : Int)) := by omega
            have g3 : ¬ ((2147483648 : Int) - (a : Int) = 0) := by omega
            have g4 : ¬ ((0 : Int) < 2147483648 - (a : Int)) := by omega
            have g5 : ¬ ((a : Int) = 2147483648) := by omega
            have g6 : (((a / 2147483648 : Nat) : Int) != 0) = true := by rw [bne_iff_ne]; omega
            simp only [g6, if_pos h4]
            have g7 : ((a : Int) == 2147483648) = false := by rw [beq_eq_false_iff_ne]; exact g5
            have g8 : ¬ ((a : Int) < 2147483648) := by omega
            simp [h1, g2, g3, g7, g8]
          · have g1 : a / 2147483648 = 0 := by omega
            have g2 : ¬ ((2139095039 : Int) < (a : Int)) := by omega
            have g5 : ¬ ((a : Int) = 2147483648) := by omega
            have g4 : (0 : Int) < (a : Int) := by omega
            have g3 : ¬ ((a : Int) = 0) := by omega
            simp only [if_neg h4, g1]
            have g7 : ((a : Int) == 2147483648) = false := by rw [beq_eq_false_iff_ne]; exact g5
            have g8 : 0 < a := by omega
            simp [h1, g2, h2, g7, g8]
theorem neg_lt (a : Nat) (h : a < 4294967296) : fneg .f32 a < 4294967296 := by
  unfold fneg Op.negFloat
  exact Nat.xor_lt_two_pow (n := 32) h (by decide)
theorem down_eq (a : Nat) (h : a < 4294967296) : r24 a = r51 a := by
  unfold r24 r51
  rw [up_eq _ (neg_lt a h)]; rfl
theorem plain5 (a : Nat) (ha : FloatKind.f32.has a) : r5 a = true := by
  unfold r5
  rw [up_eq a ha, same_self]; rfl
theorem plain6 (a : Nat) (ha : FloatKind.f32.has a) : r6 a = true := by
  unfold r6 r23
  rw [down_eq a ha, same_self]; rfl
end Go.Proofs.Ytpeehlgiddbfpaa
