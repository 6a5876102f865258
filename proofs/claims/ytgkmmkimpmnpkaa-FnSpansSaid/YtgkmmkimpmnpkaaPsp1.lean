/- The next number up and down; any number and its neighbours. -/
import Derived.Test.YtgkmmkimpmnpkaaSp2
import Derived.Test.YtgkmmkimpmnpkaaPx1
import Derived.Test.YtgkmmkimpmnpkaaA22
import Derived.Test.YtgkmmkimpmnpkaaA28
namespace Go.Proofs.Ytgkmmkimpmnpkaa
open Go.Ab
theorem wrap_u32 (n : Int) (h1 : 0 ≤ n) (h2 : n < 4294967296) : IntKind.u32.wrap n = n := by
  unfold IntKind.wrap
  simp [IntKind.bits, IntKind.signed]
  omega
theorem isInf_up (a : Nat) (h : a < 4294967296) (hn : isN .f32 a = false) : r26 (widen a) 1 = decide (a = 2139095040) := by
  rw [← widen_top a h hn]; rfl
theorem up_eq (a : Nat) (h : a < 4294967296) : r6 a = r9 a := by
  unfold r9 r28 r6
  cases hn : isN .f32 a with
  | true =>
    rw [feq_self, hn]
    rfl
  | false =>
    have z : isN .f32 0 = false := by decide
    have t : isN .f32 2139095039 = false := by decide
    rw [feq_self, hn, isInf_up a h hn, fgt_key .f32 a _ hn t, fgt_key .f32 a _ hn z, feq_key .f32 a _ hn z]
    rw [key32 a h, key32 0 (by decide), key32 2139095039 (by decide)]
    rw [isN32, decide_eq_false_iff_not] at hn
    have e31 : (min (31 : Int).toNat (IntKind.bits .u32)) = 31 := by decide
    rw [e31]
    have ef : Int.fdiv (a : Int) (2 ^ 31) = ((a / 2147483648 : Nat) : Int) := by
      rw [Int.fdiv_eq_ediv_of_nonneg _ (by decide)]; rfl
    rw [ef]
    simp only [Bool.not_false, Bool.not_true, cond_true, cond_false]
    by_cases h1 : a = 2139095040
    · subst h1; simp
    · by_cases h2 : a = 0
      · subst h2; simp [wrap_u32]
      · by_cases h3 : a = 2147483648
        · subst h3; simp
        · by_cases h4 : 2147483648 ≤ a
          · have g1 : (a / 2147483648 : Nat) ≠ 0 := by omega
            have g2 : ¬ ((2139095039 : Int) < 2147483648 - (a : Int)) := by omega
            have g3 : ¬ ((2147483648 : Int) - (a : Int) = 0) := by omega
            have g4 : ¬ ((0 : Int) < 2147483648 - (a : Int)) := by omega
            have g5 : ¬ ((a : Int) = 2147483648) := by omega
            have g6 : (((a / 2147483648 : Nat) : Int) != 0) = true := by rw [bne_iff_ne]; omega
            simp only [g6, if_pos h4]
            have g7 : ((a : Int) == 2147483648) = false := by rw [beq_eq_false_iff_ne]; exact g5
            have g8 : ¬ ((a : Int) < 2147483648) := by omega
            simp [h1, g2, g3, g7, g8]
          · have g1 : a / 2147483648 = 0 := by omega
            have g2 : ¬ ((2139095039 : Int) < (a : Int)) := by omega
            have g5 : ¬ ((a : Int) = 2147483648) := by omega
            have g4 : (0 : Int) < (a : Int) := by omega
            have g3 : ¬ ((a : Int) = 0) := by omega
            simp only [if_neg h4, g1]
            have g7 : ((a : Int) == 2147483648) = false := by rw [beq_eq_false_iff_ne]; exact g5
            have g8 : 0 < a := by omega
            simp [h1, g2, h2, g7, g8]
theorem neg_lt (a : Nat) (h : a < 4294967296) : fneg .f32 a < 4294967296 := by
  unfold fneg Op.negFloat
  exact Nat.xor_lt_two_pow (n := 32) h (by decide)
theorem down_eq (a : Nat) (h : a < 4294967296) : r7 a = r10 a := by
  unfold r10 r29 r7
  rw [up_eq _ (neg_lt a h)]; rfl
theorem nn0 : Nn 0 := by unfold Nn; decide
theorem nnM : Nn 2139095039 := by unfold Nn; decide
/-- the next number stands one place higher -/
theorem up_kk (a : Nat) (h : a < 4294967296) (hn : Nn a) (ht : a ≠ 2139095040) : r6 a < 4294967296 ∧ Nn (r6 a) ∧ kk (r6 a) = kk a + 1 := by
  rw [up_eq a h]
  unfold r9
  by_cases c1 : a = 0
  · subst c1; refine ⟨by decide +kernel, by unfold Nn; decide +kernel, by decide +kernel⟩
  by_cases c2 : a = 2147483648
  · subst c2; refine ⟨by decide +kernel, by unfold Nn; decide +kernel, by decide +kernel⟩
  have hn' := hn
  unfold Nn at hn
  have e1 : fgt .f32 a 2139095039 = false := by
    rw [fgt_flt, flt_of nnM hn' (by decide) h]
    exact decide_eq_false (by split <;> split <;> omega)
  have e2 : feq .f32 a 0 = false := by
    rw [feq_of hn' nn0 h (by decide)]
    exact decide_eq_false (by split <;> split <;> omega)
  unfold r28
  rw [feq_self, nn_isN.2 hn', e1, e2, Bool.not_false, Bool.not_true, cond_false, cond_false, cond_false]
  by_cases h4 : 2147483648 ≤ a
  · have e3 : fgt .f32 a 0 = false := by
      rw [fgt_flt, flt_of nn0 hn' (by decide) h, if_pos h4]
      exact decide_eq_false (by split <;> omega)
    rw [e3, cond_false, wrap_u32 _ (by omega) (by omega)]
    have e : ((a : Int) - 1).toNat = a - 1 := by omega
    rw [e]
    unfold Nn kk
    refine ⟨by omega, by omega, ?_⟩
    rw [if_pos (by omega), if_pos h4]; omega
  · have e3 : fgt .f32 a 0 = true := by
      rw [fgt_flt, flt_of nn0 hn' (by decide) h, if_neg h4]
      exact decide_eq_true (by split <;> omega)
    rw [e3, cond_true, wrap_u32 _ (by omega) (by omega)]
    have e : ((a : Int) + 1).toNat = a + 1 := by omega
    rw [e]
    unfold Nn kk
    refine ⟨by omega, by omega, ?_⟩
    rw [if_neg (by omega), if_neg h4]; omega
theorem kk_neg {a : Nat} (h : a < 4294967296) : kk (fneg .f32 a) = -kk a ∧ fneg .f32 a % 2147483648 = a % 2147483648 := by
  refine ⟨?_, neg_mod h⟩
  unfold kk
  by_cases h4 : 2147483648 ≤ a
  · have e : a = 2147483648 + (a - 2147483648) := by omega
    rw [if_pos h4, e, neg_neg (by omega), if_neg (by omega)]; omega
  · rw [if_neg h4, neg_pos (by omega), if_pos (by omega)]; omega
theorem down_kk (a : Nat) (h : a < 4294967296) (hn : Nn a) (ht : a ≠ 4286578688) : r7 a < 4294967296 ∧ Nn (r7 a) ∧ kk (r7 a) = kk a - 1 := by
  obtain ⟨k1, k2⟩ := kk_neg h
  have l := neg_lt a h
  obtain ⟨u1, u2, u3⟩ := up_kk (fneg .f32 a) l (by unfold Nn at *; rw [k2]; exact hn) (fun g => by
    have : kk (fneg .f32 a) = 2139095040 := by rw [g]; decide
    unfold kk at k1 this
    rw [this] at k1
    split at k1 <;> omega)
  obtain ⟨v1, v2⟩ := kk_neg u1
  unfold r7
  refine ⟨neg_lt _ u1, by unfold Nn at *; rw [v2]; exact u2, ?_⟩
  rw [v1, u3, k1]; omega
theorem flt_kk {a b : Nat} (ha : Nn a) (hb : Nn b) (a2 : a < 4294967296) (b2 : b < 4294967296) : flt .f32 a b = decide (kk a < kk b) := flt_of ha hb a2 b2
theorem feq_kk {a b : Nat} (ha : Nn a) (hb : Nn b) (a2 : a < 4294967296) (b2 : b < 4294967296) : feq .f32 a b = decide (kk a = kk b) := feq_of ha hb a2 b2
theorem same_self (a : Nat) : r8 a a = true := by
  unfold r8
  cases h : feq .f32 a a <;> simp
/-- any number and its neighbours -/
theorem any_ok (a : Nat) (h : a < 4294967296) : r8 (r6 a) (r9 a) = true ∧ r8 (r7 a) (r10 a) = true ∧ flt .f32 (r6 a) a = false ∧ fgt .f32 (r7 a) a = false ∧ (feq .f32 a a = true → feq .f32 (r6 a) (r7 a) = false) := by
  refine ⟨by rw [up_eq a h]; exact same_self _, by rw [down_eq a h]; exact same_self _, ?_⟩
  cases hn : isN .f32 a with
  | true =>
    refine ⟨?_, ?_, ?_⟩
    · unfold r6; rw [hn]; exact flt_nan_l hn
    · rw [fgt_flt]; exact flt_nan_l hn
    · rw [feq_self, hn]; intro g; cases g
  | false =>
    have nn := nn_isN.1 hn
    have hup : r6 a < 4294967296 ∧ Nn (r6 a) ∧ kk (r6 a) = kk a + 1 ∨ a = 2139095040 := by
      by_cases g : a = 2139095040
      · exact .inr g
      · exact .inl (up_kk a h nn g)
    have hdn : r7 a < 4294967296 ∧ Nn (r7 a) ∧ kk (r7 a) = kk a - 1 ∨ a = 4286578688 := by
      by_cases g : a = 4286578688
      · exact .inr g
      · exact .inl (down_kk a h nn g)
    rcases hup with ⟨u1, u2, u3⟩ | g
    · rcases hdn with ⟨d1, d2, d3⟩ | g
      · refine ⟨?_, ?_, fun _ => ?_⟩
        · rw [flt_kk u2 nn u1 h]; exact decide_eq_false (by omega)
        · rw [fgt_flt, flt_kk nn d2 h d1]; exact decide_eq_false (by omega)
        · rw [feq_kk u2 d2 u1 d1]; exact decide_eq_false (by omega)
      · subst g; refine ⟨by decide +kernel, by decide +kernel, fun _ => by decide +kernel⟩
    · subst g; refine ⟨by decide +kernel, by decide +kernel, fun _ => by decide +kernel⟩
end Go.Proofs.Ytgkmmkimpmnpkaa
