/- The plain laws of the sums and the differences of spans. -/
import Derived.Test.YtpeehlgiddbfpaaF10
import Derived.Test.YtpeehlgiddbfpaaP5
namespace Go.Proofs.Ytpeehlgiddbfpaa
open Go.Ab
theorem fadd_lt (a b : Nat) : fadd .f32 a b < 4294967296 := by
  unfold fadd
  cases h : FloatKind.f32.format.add a b with
  | none => decide
  | some r => exact Ieee.Format.add_lt _ h
theorem fsub_lt (a b : Nat) : fsub .f32 a b < 4294967296 := by
  unfold fsub
  cases h : FloatKind.f32.format.sub a b with
  | none => decide
  | some r => exact Ieee.Format.sub_lt _ h
theorem low_eq (a : Nat) (h : a < 4294967296) : r78 a = r76 a := by
  unfold r78 r76; rw [down_eq a h]
theorem high_eq (a : Nat) (h : a < 4294967296) : r79 a = r77 a := by
  unfold r79 r77; rw [up_eq a h]; rfl
theorem add_eq (a b c d : Nat) : r35 a b c d = r34 a b c d := by
  unfold r35 r34 r54c
  rw [two_eq, are_eq, show r66 a b c d = r65 a b c d from by unfold r66 r65; rw [low_eq _ (fadd_lt _ _), high_eq _ (fadd_lt _ _)]]
  cases r17 a b && r17 c d <;> rfl
theorem sub_eq (a b c d : Nat) : r37 a b c d = r36 a b c d := by
  unfold r37 r36 r54d
  rw [two_eq, are_eq, show r68 a b c d = r67 a b c d from by unfold r68 r67; rw [low_eq _ (fsub_lt _ _), high_eq _ (fsub_lt _ _)]]
  cases r17 a b && r17 c d <;> rfl
theorem plain11 (a b c d : Nat) (_ : FloatKind.f32.has a) (_ : FloatKind.f32.has b) (_ : FloatKind.f32.has c) (_ : FloatKind.f32.has d) : r11 a b c d = true := by
  simp [r11, add_eq, sameSpan_self]
theorem plain12 (a b c d : Nat) (_ : FloatKind.f32.has a) (_ : FloatKind.f32.has b) (_ : FloatKind.f32.has c) (_ : FloatKind.f32.has d) : r12 a b c d = true := by
  simp [r12, sub_eq, sameSpan_self]
end Go.Proofs.Ytpeehlgiddbfpaa
