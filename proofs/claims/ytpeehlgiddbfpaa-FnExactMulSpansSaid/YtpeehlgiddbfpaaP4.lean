/- The plain laws of the spans that are compared, joined and met. -/
import Derived.Test.YtpeehlgiddbfpaaF8
import Derived.Test.YtpeehlgiddbfpaaP3
namespace Go.Proofs.Ytpeehlgiddbfpaa
open Go.Ab
theorem plain4 (a b c : Nat) (_ : FloatKind.f32.has a) (_ : FloatKind.f32.has b) (_ : FloatKind.f32.has c) : r4 a b c = true := by
  simp [r4, r19, r18, r46, r17, r45, r16, fgt_eq, feq_comm .f32 c a]
theorem same_self (a : Nat) : r22 a a = true := by
  unfold r22
  cases h : feq .f64 a a <;> cases feq .f64 a 0 <;> simp
theorem sameSpan_self (a b : Nat) : r27 a b a b = true := by
  simp [r27, same_self]
theorem two_eq (a b c d : Nat) : r52 a b c d = cond (r17 a b && r17 c d) 0 1 := by
  unfold r52
  rw [show r45 a b = r17 a b from rfl, show r45 c d = r17 c d from rfl]
  cases r17 a b <;> cases r17 c d <;> rfl
theorem are_eq (a b c d : Nat) : (r62 a b c d).1 = (r17 a b && r17 c d) := by
  unfold r62
  cases r17 a b <;> cases r17 c d <;> rfl
theorem less_eq (a b c d : Nat) : r26 a b c d = r25 a b c d := by
  unfold r26 r25 r54
  rw [two_eq, are_eq, show r53 a b c d = r55 a b c d from rfl]
  cases r17 a b && r17 c d <;> rfl
theorem join_eq (a b c d : Nat) : r31 a b c d = r30 a b c d := by
  unfold r31 r30 r54b
  rw [two_eq, are_eq, show r58 a b c d = r59 a b c d from rfl]
  cases r17 a b && r17 c d <;> rfl
theorem meet_eq (a b c d : Nat) : r33 a b c d = r32 a b c d := by
  unfold r33 r32
  rw [two_eq, are_eq, show r60 a c = r63 a c from rfl, show r61 b d = r64 b d from rfl, show r45 (r63 a c) (r64 b d) = r17 (r63 a c) (r64 b d) from rfl]
  cases r17 a b && r17 c d <;> cases r17 (r63 a c) (r64 b d) <;> rfl
theorem plain7 (a b c d : Nat) (_ : FloatKind.f32.has a) (_ : FloatKind.f32.has b) (_ : FloatKind.f32.has c) (_ : FloatKind.f32.has d) : r7 a b c d = true := by
  simp [r7, less_eq, sameSpan_self]
theorem plain9 (a b c d : Nat) (_ : FloatKind.f32.has a) (_ : FloatKind.f32.has b) (_ : FloatKind.f32.has c) (_ : FloatKind.f32.has d) : r9 a b c d = true := by
  simp [r9, join_eq, sameSpan_self]
theorem plain10 (a b c d : Nat) (_ : FloatKind.f32.has a) (_ : FloatKind.f32.has b) (_ : FloatKind.f32.has c) (_ : FloatKind.f32.has d) : r10 a b c d = true := by
  simp [r10, meet_eq, sameSpan_self]
end Go.Proofs.Ytpeehlgiddbfpaa
