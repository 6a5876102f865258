/- What the functions that FnExactSubSpans reaches answer. -/
import Derived.Test.YtpeehlgiddbfpaaF9
namespace Go.Proofs.Ytpeehlgiddbfpaa
open Go.Ab

/-- spec.l05Sub -/
def r67 (x0 : Nat) (x1 : Nat) (x2 : Nat) (x3 : Nat) : Nat × Nat :=
 ((r76 (fsub .f32 x0 x3)), (r77 (fsub .f32 x1 x2)))
def s67 (args : List Value) (s : St) : Res :=
 match args, s.h with
 | [.agg ⟨[.float .f32 x0, .float .f32 x1]⟩, .agg ⟨[.float .f32 x2, .float .f32 x3]⟩], [] => some (.agg #[.float .f32 ((r67 x0 x1 x2 x3).1), .float .f32 ((r67 x0 x1 x2 x3).2)], st0)
 | _, _ => T63 67 args s
def a67 (x0 : Nat) (x1 : Nat) (x2 : Nat) (x3 : Nat) (p : Nat × Nat) : Res := some (.agg #[.float .f32 (p.1), .float .f32 (p.2)], st0)
def t67 (x0 : Nat) (x1 : Nat) (x2 : Nat) (x3 : Nat) : Res :=
 (some (.agg #[.float .f32 (r76 (fsub .f32 x0 x3)), .float .f32 (r77 (fsub .f32 x1 x2))], st0))
theorem e67 (x0 : Nat) (x1 : Nat) (x2 : Nat) (x3 : Nat) : evFn Try.prog ext T63 200 Try.f67 [.agg #[.float .f32 x0, .float .f32 x1], .agg #[.float .f32 x2, .float .f32 x3]] st0 = some (.agg #[.float .f32 ((r67 x0 x1 x2 x3).1), .float .f32 ((r67 x0 x1 x2 x3).2)], st0) :=
 (show evFn Try.prog ext T63 200 Try.f67 [.agg #[.float .f32 x0, .float .f32 x1], .agg #[.float .f32 x2, .float .f32 x3]] st0 = t67 x0 x1 x2 x3 from by kernel_rfl).trans
 ((show t67 x0 x1 x2 x3 = a67 x0 x1 x2 x3 (r67 x0 x1 x2 x3) from rfl))
def T64 : CallF := addF T63 67 s67
theorem ok64 : CfOk Try.prog T64 := by
  refine cfOk_add ok63 fun args s r s' h1 h2 h3 => ?_
  unfold s67 at h3; split at h3
  · rename_i h; exact callOk ok63 Try.func67 h1 h2 h (e67 _ _ _ _) rfl h3
  · exact ok63 _ _ _ _ _ h1 h2 h3

/-- spec.SubSpans -/
def r36 (x0 : Nat) (x1 : Nat) (x2 : Nat) (x3 : Nat) : Nat × Nat × Int :=
 cond (((r52 x0 x1 x2 x3) : Int) != 0)
  (0, 0, (r52 x0 x1 x2 x3))
  (((r67 x0 x1 x2 x3).1), ((r67 x0 x1 x2 x3).2), 0)
def s36 (args : List Value) (s : St) : Res :=
 match args, s.h with
 | [.agg ⟨[.float .f32 x0, .float .f32 x1]⟩, .agg ⟨[.float .f32 x2, .float .f32 x3]⟩], [] => some (.tuple #[.agg #[.float .f32 ((r36 x0 x1 x2 x3).1), .float .f32 ((r36 x0 x1 x2 x3).2.1)], .int .i64 ((r36 x0 x1 x2 x3).2.2)], st0)
 | _, _ => T64 36 args s
def a36 (x0 : Nat) (x1 : Nat) (x2 : Nat) (x3 : Nat) (p : Nat × Nat × Int) : Res := some (.tuple #[.agg #[.float .f32 (p.1), .float .f32 (p.2.1)], .int .i64 (p.2.2)], st0)
def t36 (x0 : Nat) (x1 : Nat) (x2 : Nat) (x3 : Nat) : Res :=
 (cond (((r52 x0 x1 x2 x3) : Int) != 0)
 (some (.tuple #[.agg #[.float .f32 0, .float .f32 0], .int .i64 (r52 x0 x1 x2 x3)], st0))
 (some (.tuple #[.agg #[.float .f32 ((r67 x0 x1 x2 x3).1), .float .f32 ((r67 x0 x1 x2 x3).2)], .int .i64 0], st0)))
theorem e36 (x0 : Nat) (x1 : Nat) (x2 : Nat) (x3 : Nat) : evFn Try.prog ext T64 200 Try.f36 [.agg #[.float .f32 x0, .float .f32 x1], .agg #[.float .f32 x2, .float .f32 x3]] st0 = some (.tuple #[.agg #[.float .f32 ((r36 x0 x1 x2 x3).1), .float .f32 ((r36 x0 x1 x2 x3).2.1)], .int .i64 ((r36 x0 x1 x2 x3).2.2)], st0) :=
 (show evFn Try.prog ext T64 200 Try.f36 [.agg #[.float .f32 x0, .float .f32 x1], .agg #[.float .f32 x2, .float .f32 x3]] st0 = t36 x0 x1 x2 x3 from by kernel_rfl).trans
 ((show t36 x0 x1 x2 x3 = a36 x0 x1 x2 x3 (r36 x0 x1 x2 x3) from (cond_app (a36 x0 x1 x2 x3) _ rfl rfl)))
def T65 : CallF := addF T64 36 s36
theorem ok65 : CfOk Try.prog T65 := by
  refine cfOk_add ok64 fun args s r s' h1 h2 h3 => ?_
  unfold s36 at h3; split at h3
  · rename_i h; exact callOk ok64 Try.func36 h1 h2 h (e36 _ _ _ _) rfl h3
  · exact ok64 _ _ _ _ _ h1 h2 h3

/-- impl.subSpans -/
def r68 (x0 : Nat) (x1 : Nat) (x2 : Nat) (x3 : Nat) : Nat × Nat :=
 ((r78 (fsub .f32 x0 x3)), (r79 (fsub .f32 x1 x2)))
def s68 (args : List Value) (s : St) : Res :=
 match args, s.h with
 | [.agg ⟨[.float .f32 x0, .float .f32 x1]⟩, .agg ⟨[.float .f32 x2, .float .f32 x3]⟩], [] => some (.agg #[.float .f32 ((r68 x0 x1 x2 x3).1), .float .f32 ((r68 x0 x1 x2 x3).2)], st0)
 | _, _ => T65 68 args s
def a68 (x0 : Nat) (x1 : Nat) (x2 : Nat) (x3 : Nat) (p : Nat × Nat) : Res := some (.agg #[.float .f32 (p.1), .float .f32 (p.2)], st0)
def t68 (x0 : Nat) (x1 : Nat) (x2 : Nat) (x3 : Nat) : Res :=
 (some (.agg #[.float .f32 (r78 (fsub .f32 x0 x3)), .float .f32 (r79 (fsub .f32 x1 x2))], st0))
theorem e68 (x0 : Nat) (x1 : Nat) (x2 : Nat) (x3 : Nat) : evFn Try.prog ext T65 200 Try.f68 [.agg #[.float .f32 x0, .float .f32 x1], .agg #[.float .f32 x2, .float .f32 x3]] st0 = some (.agg #[.float .f32 ((r68 x0 x1 x2 x3).1), .float .f32 ((r68 x0 x1 x2 x3).2)], st0) :=
 (show evFn Try.prog ext T65 200 Try.f68 [.agg #[.float .f32 x0, .float .f32 x1], .agg #[.float .f32 x2, .float .f32 x3]] st0 = t68 x0 x1 x2 x3 from by kernel_rfl).trans
 ((show t68 x0 x1 x2 x3 = a68 x0 x1 x2 x3 (r68 x0 x1 x2 x3) from rfl))
def T66 : CallF := addF T65 68 s68
theorem ok66 : CfOk Try.prog T66 := by
  refine cfOk_add ok65 fun args s r s' h1 h2 h3 => ?_
  unfold s68 at h3; split at h3
  · rename_i h; exact callOk ok65 Try.func68 h1 h2 h (e68 _ _ _ _) rfl h3
  · exact ok65 _ _ _ _ _ h1 h2 h3

/-- impl.onSpans -/
def r54d (x0 : Nat) (x1 : Nat) (x2 : Nat) (x3 : Nat) : Nat × Nat × Int :=
 cond (!((r62 x0 x1 x2 x3).1))
  (0, 0, 1)
  (((r68 x0 x1 x2 x3).1), ((r68 x0 x1 x2 x3).2), 0)
def s54d (args : List Value) (s : St) : Res :=
 match args, s.h with
 | [.agg ⟨[.float .f32 x0, .float .f32 x1]⟩, .agg ⟨[.float .f32 x2, .float .f32 x3]⟩, .func (.func f0) ⟨[]⟩ ⟨[]⟩], [] => if f0 = 68 then some (.tuple #[.agg #[.float .f32 ((r54d x0 x1 x2 x3).1), .float .f32 ((r54d x0 x1 x2 x3).2.1)], .int .i64 ((r54d x0 x1 x2 x3).2.2)], st0) else T66 54 args s
 | _, _ => T66 54 args s
def a54d (x0 : Nat) (x1 : Nat) (x2 : Nat) (x3 : Nat) (p : Nat × Nat × Int) : Res := some (.tuple #[.agg #[.float .f32 (p.1), .float .f32 (p.2.1)], .int .i64 (p.2.2)], st0)
def t54d (x0 : Nat) (x1 : Nat) (x2 : Nat) (x3 : Nat) : Res :=
 (cond (!((r62 x0 x1 x2 x3).1))
 (some (.tuple #[.agg #[.float .f32 0, .float .f32 0], .int .i64 1], st0))
 (some (.tuple #[.agg #[.float .f32 ((r68 x0 x1 x2 x3).1), .float .f32 ((r68 x0 x1 x2 x3).2)], .int .i64 0], st0)))
theorem e54d (x0 : Nat) (x1 : Nat) (x2 : Nat) (x3 : Nat) : evFn Try.prog ext T66 200 Try.f54 [.agg #[.float .f32 x0, .float .f32 x1], .agg #[.float .f32 x2, .float .f32 x3], .func (.func 68) #[] #[]] st0 = some (.tuple #[.agg #[.float .f32 ((r54d x0 x1 x2 x3).1), .float .f32 ((r54d x0 x1 x2 x3).2.1)], .int .i64 ((r54d x0 x1 x2 x3).2.2)], st0) :=
 (show evFn Try.prog ext T66 200 Try.f54 [.agg #[.float .f32 x0, .float .f32 x1], .agg #[.float .f32 x2, .float .f32 x3], .func (.func 68) #[] #[]] st0 = t54d x0 x1 x2 x3 from by kernel_rfl).trans
 ((show t54d x0 x1 x2 x3 = a54d x0 x1 x2 x3 (r54d x0 x1 x2 x3) from (cond_app (a54d x0 x1 x2 x3) _ rfl rfl)))
def T67 : CallF := addF T66 54 s54d
theorem ok67 : CfOk Try.prog T67 := by
  refine cfOk_add ok66 fun args s r s' h1 h2 h3 => ?_
  unfold s54d at h3; split at h3
  · rename_i h; split at h3
    · rename_i hc; obtain ⟨rfl⟩ := hc; exact callOk ok66 Try.func54 h1 h2 h (e54d _ _ _ _) rfl h3
    · exact ok66 _ _ _ _ _ h1 h2 h3
  · exact ok66 _ _ _ _ _ h1 h2 h3

/-- impl.SubSpans -/
def r37 (x0 : Nat) (x1 : Nat) (x2 : Nat) (x3 : Nat) : Nat × Nat × Int :=
 (((r54d x0 x1 x2 x3).1), ((r54d x0 x1 x2 x3).2.1), ((r54d x0 x1 x2 x3).2.2))
def s37 (args : List Value) (s : St) : Res :=
 match args, s.h with
 | [.agg ⟨[.float .f32 x0, .float .f32 x1]⟩, .agg ⟨[.float .f32 x2, .float .f32 x3]⟩], [] => some (.tuple #[.agg #[.float .f32 ((r37 x0 x1 x2 x3).1), .float .f32 ((r37 x0 x1 x2 x3).2.1)], .int .i64 ((r37 x0 x1 x2 x3).2.2)], st0)
 | _, _ => T67 37 args s
def a37 (x0 : Nat) (x1 : Nat) (x2 : Nat) (x3 : Nat) (p : Nat × Nat × Int) : Res := some (.tuple #[.agg #[.float .f32 (p.1), .float .f32 (p.2.1)], .int .i64 (p.2.2)], st0)
def t37 (x0 : Nat) (x1 : Nat) (x2 : Nat) (x3 : Nat) : Res :=
 (some (.tuple #[.agg #[.float .f32 ((r54d x0 x1 x2 x3).1), .float .f32 ((r54d x0 x1 x2 x3).2.1)], .int .i64 ((r54d x0 x1 x2 x3).2.2)], st0))
theorem e37 (x0 : Nat) (x1 : Nat) (x2 : Nat) (x3 : Nat) : evFn Try.prog ext T67 200 Try.f37 [.agg #[.float .f32 x0, .float .f32 x1], .agg #[.float .f32 x2, .float .f32 x3]] st0 = some (.tuple #[.agg #[.float .f32 ((r37 x0 x1 x2 x3).1), .float .f32 ((r37 x0 x1 x2 x3).2.1)], .int .i64 ((r37 x0 x1 x2 x3).2.2)], st0) :=
 (show evFn Try.prog ext T67 200 Try.f37 [.agg #[.float .f32 x0, .float .f32 x1], .agg #[.float .f32 x2, .float .f32 x3]] st0 = t37 x0 x1 x2 x3 from by kernel_rfl).trans
 ((show t37 x0 x1 x2 x3 = a37 x0 x1 x2 x3 (r37 x0 x1 x2 x3) from rfl))
def T68 : CallF := addF T67 37 s37
theorem ok68 : CfOk Try.prog T68 := by
  refine cfOk_add ok67 fun args s r s' h1 h2 h3 => ?_
  unfold s37 at h3; split at h3
  · rename_i h; exact callOk ok67 Try.func37 h1 h2 h (e37 _ _ _ _) rfl h3
  · exact ok67 _ _ _ _ _ h1 h2 h3

/-- laws.FnExactSubSpans -/
def r12 (x0 : Nat) (x1 : Nat) (x2 : Nat) (x3 : Nat) : Bool :=
 cond (!(r27 ((r37 ((r16 x0 x1).1) ((r16 x0 x1).2) ((r16 x2 x3).1) ((r16 x2 x3).2)).1) ((r37 ((r16 x0 x1).1) ((r16 x0 x1).2) ((r16 x2 x3).1) ((r16 x2 x3).2)).2.1) ((r36 ((r16 x0 x1).1) ((r16 x0 x1).2) ((r16 x2 x3).1) ((r16 x2 x3).2)).1) ((r36 ((r16 x0 x1).1) ((r16 x0 x1).2) ((r16 x2 x3).1) ((r16 x2 x3).2)).2.1)))
  (false)
  (cond ((((r37 ((r16 x0 x1).1) ((r16 x0 x1).2) ((r16 x2 x3).1) ((r16 x2 x3).2)).2.2) : Int) != ((r36 ((r16 x0 x1).1) ((r16 x0 x1).2) ((r16 x2 x3).1) ((r16 x2 x3).2)).2.2))
   (false)
   (true))
def s12 (args : List Value) (s : St) : Res :=
 match args, s.h with
 | [.agg ⟨[.float .f32 x0, .float .f32 x1]⟩, .agg ⟨[.float .f32 x2, .float .f32 x3]⟩], [] => some (.bool (r12 x0 x1 x2 x3), st0)
 | _, _ => T68 12 args s
def a12 (x0 : Nat) (x1 : Nat) (x2 : Nat) (x3 : Nat) (p : Bool) : Res := some (.bool p, st0)
def t12 (x0 : Nat) (x1 : Nat) (x2 : Nat) (x3 : Nat) : Res :=
 (cond (!(r27 ((r37 ((r16 x0 x1).1) ((r16 x0 x1).2) ((r16 x2 x3).1) ((r16 x2 x3).2)).1) ((r37 ((r16 x0 x1).1) ((r16 x0 x1).2) ((r16 x2 x3).1) ((r16 x2 x3).2)).2.1) ((r36 ((r16 x0 x1).1) ((r16 x0 x1).2) ((r16 x2 x3).1) ((r16 x2 x3).2)).1) ((r36 ((r16 x0 x1).1) ((r16 x0 x1).2) ((r16 x2 x3).1) ((r16 x2 x3).2)).2.1)))
 (some (.bool false, st0))
 (cond ((((r37 ((r16 x0 x1).1) ((r16 x0 x1).2) ((r16 x2 x3).1) ((r16 x2 x3).2)).2.2) : Int) != ((r36 ((r16 x0 x1).1) ((r16 x0 x1).2) ((r16 x2 x3).1) ((r16 x2 x3).2)).2.2))
  (some (.bool false, st0))
  (some (.bool true, st0))))
theorem e12 (x0 : Nat) (x1 : Nat) (x2 : Nat) (x3 : Nat) : evFn Try.prog ext T68 200 Try.f12 [.agg #[.float .f32 x0, .float .f32 x1], .agg #[.float .f32 x2, .float .f32 x3]] st0 = some (.bool (r12 x0 x1 x2 x3), st0) :=
 (show evFn Try.prog ext T68 200 Try.f12 [.agg #[.float .f32 x0, .float .f32 x1], .agg #[.float .f32 x2, .float .f32 x3]] st0 = t12 x0 x1 x2 x3 from by kernel_rfl).trans
 ((show t12 x0 x1 x2 x3 = a12 x0 x1 x2 x3 (r12 x0 x1 x2 x3) from (cond_app (a12 x0 x1 x2 x3) _ rfl (cond_app (a12 x0 x1 x2 x3) _ rfl rfl))))
def T69 : CallF := addF T68 12 s12
theorem ok69 : CfOk Try.prog T69 := by
  refine cfOk_add ok68 fun args s r s' h1 h2 h3 => ?_
  unfold s12 at h3; split at h3
  · rename_i h; exact callOk ok68 Try.func12 h1 h2 h (e12 _ _ _ _) rfl h3
  · exact ok68 _ _ _ _ _ h1 h2 h3
end Go.Proofs.Ytpeehlgiddbfpaa
