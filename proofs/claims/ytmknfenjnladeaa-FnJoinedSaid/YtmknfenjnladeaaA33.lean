/- Float32: numbers that differ at most in the sign of a nought. -/
import Derived.Test.YtmknfenjnladeaaA32
namespace Go.Ab
open Ieee

/-- the same but for the sign of a nought -/
def Zq (a b : Nat) : Prop := a = b ∨ (a % 2147483648 = 0 ∧ b % 2147483648 = 0)
theorem Zq.trans {a b c : Nat} (h1 : Zq a b) (h2 : Zq b c) : Zq a c := by
  rcases h1 with rfl | ⟨h1, h1'⟩
  · exact h2
  · rcases h2 with rfl | ⟨_, h2'⟩
    · exact .inr ⟨h1, h1'⟩
    · exact .inr ⟨h1, h2'⟩
theorem Zq.fi {a b : Nat} (h : Zq a b) : Fi a ↔ Fi b := by
  rcases h with rfl | ⟨z, z'⟩
  · exact Iff.rfl
  · unfold Fi; omega
theorem Zq.sv {a b : Nat} (h : Zq a b) : sv a = sv b := by
  rcases h with rfl | ⟨z, z'⟩
  · rfl
  · unfold Go.Ab.sv
    rw [z, z', show rval F32 0 = 0 from rval_zero F32]
    split <;> split <;> rfl
end Go.Ab
