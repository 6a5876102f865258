/- The plain law of the products of spans. -/
import Derived.Test.YtpeehlgiddbfpaaF11
import Derived.Test.YtpeehlgiddbfpaaP11
namespace Go.Proofs.Ytpeehlgiddbfpaa
open Go.Ab
theorem fmul_lt (a b : Nat) : fmul .f32 a b < 4294967296 := by
  unfold fmul
  cases h : FloatKind.f32.format.mul a b with
  | none => decide
  | some r => exact Ieee.Format.mul_lt _ h
/-- one more product, and what is done with the least and the greatest of all -/
def more (k : Nat → Nat → Nat × Nat) (s low high : Nat) : Nat × Nat :=
  cond (!feq .f32 s s) (4286578688, 2139095040) (cond (flt .f32 s low) (cond (fgt .f32 s high) (k s s) (k s high)) (cond (fgt .f32 s high) (k low s) (k low high)))
theorem more_eq (k : Nat → Nat → Nat × Nat) (s low high : Nat) : more k s low high = cond (!feq .f32 s s) (4286578688, 2139095040) (k (r64 low s) (r63 high s)) := by
  unfold more r64 r63
  cases feq .f32 s s <;> cases flt .f32 s low <;> cases fgt .f32 s high <;> rfl
theorem least_lt (a b : Nat) (ha : a < 4294967296) (hb : b < 4294967296) : r64 a b < 4294967296 := by
  unfold r64; cases flt .f32 b a
  · exact ha
  · exact hb
theorem most_lt (a b : Nat) (ha : a < 4294967296) (hb : b < 4294967296) : r63 a b < 4294967296 := by
  unfold r63; cases fgt .f32 b a
  · exact ha
  · exact hb
theorem mul_spec (a b c d : Nat) : r69 a b c d = more (more (more (more (fun l h => (r51 l, r47 h)) (fmul .f32 b d)) (fmul .f32 b c)) (fmul .f32 a d)) (fmul .f32 a c) (fmul .f32 a c) (fmul .f32 a c) := by
  rfl
theorem mul_eq (a b c d : Nat) : r70 a b c d = r69 a b c d := by
  rw [mul_spec]
  unfold r70
  have h1 := fmul_lt a c
  have h2 := fmul_lt a d
  have h3 := fmul_lt b c
  have h4 := fmul_lt b d
  generalize fmul .f32 a c = p at *
  generalize fmul .f32 a d = q at *
  generalize fmul .f32 b c = r at *
  generalize fmul .f32 b d = s at *
  rw [more_eq, more_eq, more_eq, more_eq]
  rw [down_eq _ (least_lt _ _ (least_lt _ _ (least_lt _ _ (least_lt _ _ h1 h1) h2) h3) h4), up_eq _ (most_lt _ _ (most_lt _ _ (most_lt _ _ (most_lt _ _ h1 h1) h2) h3) h4)]
  rfl
theorem prod_eq (a b c d : Nat) : r39 a b c d = r38 a b c d := by
  unfold r39 r38 r54e
  rw [two_eq, are_eq, mul_eq]
  cases r17 a b && r17 c d <;> rfl
theorem plain13 (a b c d : Nat) (_ : FloatKind.f32.has a) (_ : FloatKind.f32.has b) (_ : FloatKind.f32.has c) (_ : FloatKind.f32.has d) : r13 a b c d = true := by
  simp [r13, prod_eq, sameSpan_self]
end Go.Proofs.Ytpeehlgiddbfpaa
