/- The plain laws of logs: what they hold. -/
import Derived.Test.YtpmpeakamcfdcaaG3
namespace Go.Proofs.Ytpmpeakamcfdcaa
open Go.Ab
theorem same_self (a : Nat) : r14 a a = true := by
  unfold r14
  cases h : feq .f64 a a <;> cases feq .f64 a 0 <;> simp
theorem fin_spec (d : Nat) : r109 d = decide (d % 2147483648 < 2139095040) := finite_sub d
theorem fin_impl (d : Nat) : r107 d = decide (d % 2147483648 < 2139095040) := by
  have e : r122 (widen d) 0 = decide (d % 2147483648 = 2139095040) := abs_top d
  unfold r107 r121
  rw [e, feq_self, isN_widen, isN32]
  by_cases h1 : 2139095040 < d % 2147483648
  · have h2 : ¬ (d % 2147483648 < 2139095040) := by omega
    simp [h1, h2]
  · by_cases h2 : d % 2147483648 = 2139095040
    · simp [h2]
    · have h3 : d % 2147483648 < 2139095040 := by omega
      simp [h1, h2, h3]
theorem amount_eq (d : Nat) (h : d < 4294967296) : r91 d = decide (d < 2139095040) ∧ r100 d = decide (d < 2139095040) := by
  unfold r91 r100
  rw [fin_spec, fin_impl]
  by_cases h1 : d % 2147483648 < 2139095040
  · have hn : isN .f32 d = false := by rw [isN32, decide_eq_false_iff_not]; omega
    have z : isN .f32 0 = false := by decide
    rw [decide_eq_true h1, hn, fgt_key .f32 d _ hn z, feq_key .f32 d _ hn z, key32 d h, key32 0 (by decide)]
    have e31 : (min (31 : Int).toNat (IntKind.bits .u32)) = 31 := by decide
    have ef : Int.fdiv (d : Int) (2 ^ 31) = ((d / 2147483648 : Nat) : Int) := by
      rw [Int.fdiv_eq_ediv_of_nonneg _ (by decide)]; rfl
    rw [e31, ef]
    by_cases h2 : 2147483648 ≤ d
    · have g1 : ¬ d < 2139095040 := by omega
      have g2 : d / 2147483648 = 1 := by omega
      have g3 : ((d : Int) == 0) = false := by rw [beq_eq_false_iff_ne]; omega
      have g4 : ¬ ((d : Int) < 2147483648) := by omega
      simp only [if_pos h2, g2]
      simp [g1, g3, g4]
    · have g1 : d < 2139095040 := by omega
      have g2 : d / 2147483648 = 0 := by omega
      simp only [if_neg h2, g2]
      by_cases h3 : d = 0
      · subst h3; simp
      · have g5 : 0 < d := by omega
        simp [g1, g5]
  · have g1 : ¬ d < 2139095040 := by omega
    rw [decide_eq_false h1, decide_eq_false g1]
    exact ⟨rfl, rfl⟩
theorem upto_eq (d m : Nat) (h : d < 4294967296) (hm : isN .f32 m = false) (R : Bool) : cond (!(r100 d)) false (cond (fgt .f32 d m) false R) = cond (!(r71 d m)) false R := by
  unfold r71
  rw [(amount_eq d h).1, (amount_eq d h).2]
  by_cases h1 : d < 2139095040
  · have hn : isN .f32 d = false := by rw [isN32, decide_eq_false_iff_not]; omega
    rw [decide_eq_true h1, fgt_key .f32 d m hn hm, flt_key .f32 d m hn hm, feq_key .f32 d m hn hm]
    generalize key FloatKind.f32.format d = x
    generalize key FloatKind.f32.format m = y
    rcases Int.lt_trichotomy x y with g | g | g
    · have g2 : ¬ y < x := by omega
      simp [g, g2]
    · subst g; simp
    · have g2 : ¬ x < y := by omega
      have g3 : ¬ x = y := by omega
      simp [g, g2, g3]
  · rw [decide_eq_false h1]; rfl
theorem within_eq (d : Nat) (R : Bool) : cond (fgt .f32 d 3262119936 || feq .f32 d 3262119936) (cond (!(flt .f32 d 1153138688 || feq .f32 d 1153138688)) false R) false = cond (!(r72 d 3262119936 1153138688)) false R := by
  unfold r72
  cases (fgt .f32 d 3262119936 || feq .f32 d 3262119936) <;> cases (flt .f32 d 1153138688 || feq .f32 d 1153138688) <;> rfl
theorem valid_eq (a0 a1 a2 a3 a4 a5 a6 a7 a8 a9 a10 a11 a12 a13 a14 a15 a16 a17 : Nat)
    (h0 : a0 < 4294967296) (h1 : a1 < 4294967296) (h2 : a2 < 4294967296) (h3 : a3 < 4294967296) (h4 : a4 < 4294967296) (h5 : a5 < 4294967296)
    (h12 : a12 < 4294967296) (h13 : a13 < 4294967296) (h14 : a14 < 4294967296) (h15 : a15 < 4294967296) (h16 : a16 < 4294967296) (h17 : a17 < 4294967296) :
    r57 a0 a1 a2 a3 a4 a5 a6 a7 a8 a9 a10 a11 a12 a13 a14 a15 a16 a17 = r27 a0 a1 a2 a3 a4 a5 a6 a7 a8 a9 a10 a11 a12 a13 a14 a15 a16 a17 := by
  have hm : isN .f32 1092616192 = false := by decide
  unfold r57 r27
  simp only [within_eq, upto_eq a0 _ h0 hm, upto_eq a1 _ h1 hm, upto_eq a2 _ h2 hm, upto_eq a3 _ h3 hm, upto_eq a4 _ h4 hm, upto_eq a5 _ h5 hm,
    upto_eq a12 _ h12 hm, upto_eq a13 _ h13 hm, upto_eq a14 _ h14 hm, upto_eq a15 _ h15 hm, upto_eq a16 _ h16 hm, upto_eq a17 _ h17 hm]
theorem plain3 (a0 a1 a2 a3 a4 a5 a6 a7 a8 a9 a10 a11 a12 a13 a14 a15 a16 a17 : Nat) (h0 : FloatKind.f32.has a0) (h1 : FloatKind.f32.has a1) (h2 : FloatKind.f32.has a2) (h3 : FloatKind.f32.has a3) (h4 : FloatKind.f32.has a4) (h5 : FloatKind.f32.has a5) (_ : FloatKind.f32.has a6) (_ : FloatKind.f32.has a7) (_ : FloatKind.f32.has a8) (_ : FloatKind.f32.has a9) (_ : FloatKind.f32.has a10) (_ : FloatKind.f32.has a11) (h12 : FloatKind.f32.has a12) (h13 : FloatKind.f32.has a13) (h14 : FloatKind.f32.has a14) (h15 : FloatKind.f32.has a15) (h16 : FloatKind.f32.has a16) (h17 : FloatKind.f32.has a17) : r3 a0 a1 a2 a3 a4 a5 a6 a7 a8 a9 a10 a11 a12 a13 a14 a15 a16 a17 = true := by
  have e : r13 a0 a1 a2 a3 a4 a5 a6 a7 a8 a9 a10 a11 a12 a13 a14 a15 a16 a17 = r11 a0 a1 a2 a3 a4 a5 a6 a7 a8 a9 a10 a11 a12 a13 a14 a15 a16 a17 := by
    unfold r13 r11
    rw [valid_eq a0 a1 a2 a3 a4 a5 a6 a7 a8 a9 a10 a11 a12 a13 a14 a15 a16 a17 h0 h1 h2 h3 h4 h5 h12 h13 h14 h15 h16 h17]; rfl
  unfold r3
  rw [e, same_self]
  simp
theorem plain4 (a0 a1 a2 a3 a4 a5 a6 a7 a8 a9 a10 a11 a12 a13 a14 a15 a16 a17 : Nat) (h0 : FloatKind.f32.has a0) (h1 : FloatKind.f32.has a1) (h2 : FloatKind.f32.has a2) (h3 : FloatKind.f32.has a3) (h4 : FloatKind.f32.has a4) (h5 : FloatKind.f32.has a5) (_ : FloatKind.f32.has a6) (_ : FloatKind.f32.has a7) (_ : FloatKind.f32.has a8) (_ : FloatKind.f32.has a9) (_ : FloatKind.f32.has a10) (_ : FloatKind.f32.has a11) (h12 : FloatKind.f32.has a12) (h13 : FloatKind.f32.has a13) (h14 : FloatKind.f32.has a14) (h15 : FloatKind.f32.has a15) (h16 : FloatKind.f32.has a16) (h17 : FloatKind.f32.has a17) : r4 a0 a1 a2 a3 a4 a5 a6 a7 a8 a9 a10 a11 a12 a13 a14 a15 a16 a17 = true := by
  have e : r16 a0 a1 a2 a3 a4 a5 a6 a7 a8 a9 a10 a11 a12 a13 a14 a15 a16 a17 = r15 a0 a1 a2 a3 a4 a5 a6 a7 a8 a9 a10 a11 a12 a13 a14 a15 a16 a17 := by
    unfold r16 r15
    rw [valid_eq a0 a1 a2 a3 a4 a5 a6 a7 a8 a9 a10 a11 a12 a13 a14 a15 a16 a17 h0 h1 h2 h3 h4 h5 h12 h13 h14 h15 h16 h17]; rfl
  unfold r4
  rw [e, same_self]
  simp
theorem plain5 (a0 a1 a2 a3 a4 a5 a6 a7 a8 a9 a10 a11 a12 a13 a14 a15 a16 a17 : Nat) (h0 : FloatKind.f32.has a0) (h1 : FloatKind.f32.has a1) (h2 : FloatKind.f32.has a2) (h3 : FloatKind.f32.has a3) (h4 : FloatKind.f32.has a4) (h5 : FloatKind.f32.has a5) (_ : FloatKind.f32.has a6) (_ : FloatKind.f32.has a7) (_ : FloatKind.f32.has a8) (_ : FloatKind.f32.has a9) (_ : FloatKind.f32.has a10) (_ : FloatKind.f32.has a11) (h12 : FloatKind.f32.has a12) (h13 : FloatKind.f32.has a13) (h14 : FloatKind.f32.has a14) (h15 : FloatKind.f32.has a15) (h16 : FloatKind.f32.has a16) (h17 : FloatKind.f32.has a17) : r5 a0 a1 a2 a3 a4 a5 a6 a7 a8 a9 a10 a11 a12 a13 a14 a15 a16 a17 = true := by
  have e : r18 a0 a1 a2 a3 a4 a5 a6 a7 a8 a9 a10 a11 a12 a13 a14 a15 a16 a17 = r17 a0 a1 a2 a3 a4 a5 a6 a7 a8 a9 a10 a11 a12 a13 a14 a15 a16 a17 := by
    unfold r18 r17
    rw [valid_eq a0 a1 a2 a3 a4 a5 a6 a7 a8 a9 a10 a11 a12 a13 a14 a15 a16 a17 h0 h1 h2 h3 h4 h5 h12 h13 h14 h15 h16 h17]; rfl
  unfold r5
  rw [e, same_self]
  simp
end Go.Proofs.Ytpmpeakamcfdcaa
