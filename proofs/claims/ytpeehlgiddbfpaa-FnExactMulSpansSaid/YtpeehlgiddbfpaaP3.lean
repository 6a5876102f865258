/- ValidSpan: the plain law. -/
import Derived.Test.YtpeehlgiddbfpaaF1
import Derived.Test.YtpeehlgiddbfpaaA19
namespace Go.Proofs.Ytpeehlgiddbfpaa
open Go.Ab
theorem plain3 (a b : Nat) (_ : FloatKind.f32.has a) (_ : FloatKind.f32.has b) : r3 a b = true := by
  simp [r3, r17, r15, r45, r16]
end Go.Proofs.Ytpeehlgiddbfpaa
