/- What the functions that FnExactJoinSpans reaches answer. -/
import Derived.Test.YtpeehlgiddbfpaaF6
namespace Go.Proofs.Ytpeehlgiddbfpaa
open Go.Ab

/-- spec.l01Less -/
def r61 (x0 : Nat) (x1 : Nat) : Nat :=
 cond (flt .f32 x1 x0)
  (x1)
  (x0)
def s61 (args : List Value) (s : St) : Res :=
 match args, s.h with
 | [.float .f32 x0, .float .f32 x1], [] => some (.float .f32 (r61 x0 x1), st0)
 | _, _ => T36 61 args s
def a61 (x0 : Nat) (x1 : Nat) (p : Nat) : Res := some (.float .f32 p, st0)
def t61 (x0 : Nat) (x1 : Nat) : Res :=
 (cond (flt .f32 x1 x0)
 (some (.float .f32 x1, st0))
 (some (.float .f32 x0, st0)))
theorem e61 (x0 : Nat) (x1 : Nat) : evFn Try.prog ext T36 200 Try.f61 [.float .f32 x0, .float .f32 x1] st0 = some (.float .f32 (r61 x0 x1), st0) :=
 (show evFn Try.prog ext T36 200 Try.f61 [.float .f32 x0, .float .f32 x1] st0 = t61 x0 x1 from by kernel_rfl).trans
 ((show t61 x0 x1 = a61 x0 x1 (r61 x0 x1) from (cond_app (a61 x0 x1) _ rfl rfl)))
def T37 : CallF := addF T36 61 s61
theorem ok37 : CfOk Try.prog T37 := by
  refine cfOk_add ok36 fun args s r s' h1 h2 h3 => ?_
  unfold s61 at h3; split at h3
  · rename_i h; exact callOk ok36 Try.func61 h1 h2 h (e61 _ _) rfl h3
  · exact ok36 _ _ _ _ _ h1 h2 h3

/-- spec.l05Greater -/
def r60 (x0 : Nat) (x1 : Nat) : Nat :=
 cond (fgt .f32 x1 x0)
  (x1)
  (x0)
def s60 (args : List Value) (s : St) : Res :=
 match args, s.h with
 | [.float .f32 x0, .float .f32 x1], [] => some (.float .f32 (r60 x0 x1), st0)
 | _, _ => T37 60 args s
def a60 (x0 : Nat) (x1 : Nat) (p : Nat) : Res := some (.float .f32 p, st0)
def t60 (x0 : Nat) (x1 : Nat) : Res :=
 (cond (fgt .f32 x1 x0)
 (some (.float .f32 x1, st0))
 (some (.float .f32 x0, st0)))
theorem e60 (x0 : Nat) (x1 : Nat) : evFn Try.prog ext T37 200 Try.f60 [.float .f32 x0, .float .f32 x1] st0 = some (.float .f32 (r60 x0 x1), st0) :=
 (show evFn Try.prog ext T37 200 Try.f60 [.float .f32 x0, .float .f32 x1] st0 = t60 x0 x1 from by kernel_rfl).trans
 ((show t60 x0 x1 = a60 x0 x1 (r60 x0 x1) from (cond_app (a60 x0 x1) _ rfl rfl)))
def T38 : CallF := addF T37 60 s60
theorem ok38 : CfOk Try.prog T38 := by
  refine cfOk_add ok37 fun args s r s' h1 h2 h3 => ?_
  unfold s60 at h3; split at h3
  · rename_i h; exact callOk ok37 Try.func60 h1 h2 h (e60 _ _) rfl h3
  · exact ok37 _ _ _ _ _ h1 h2 h3

/-- spec.l05Join -/
def r58 (x0 : Nat) (x1 : Nat) (x2 : Nat) (x3 : Nat) : Nat × Nat :=
 ((r61 x0 x2), (r60 x1 x3))
def s58 (args : List Value) (s : St) : Res :=
 match args, s.h with
 | [.agg ⟨[.float .f32 x0, .float .f32 x1]⟩, .agg ⟨[.float .f32 x2, .float .f32 x3]⟩], [] => some (.agg #[.float .f32 ((r58 x0 x1 x2 x3).1), .float .f32 ((r58 x0 x1 x2 x3).2)], st0)
 | _, _ => T38 58 args s
def a58 (x0 : Nat) (x1 : Nat) (x2 : Nat) (x3 : Nat) (p : Nat × Nat) : Res := some (.agg #[.float .f32 (p.1), .float .f32 (p.2)], st0)
def t58 (x0 : Nat) (x1 : Nat) (x2 : Nat) (x3 : Nat) : Res :=
 (some (.agg #[.float .f32 (r61 x0 x2), .float .f32 (r60 x1 x3)], st0))
theorem e58 (x0 : Nat) (x1 : Nat) (x2 : Nat) (x3 : Nat) : evFn Try.prog ext T38 200 Try.f58 [.agg #[.float .f32 x0, .float .f32 x1], .agg #[.float .f32 x2, .float .f32 x3]] st0 = some (.agg #[.float .f32 ((r58 x0 x1 x2 x3).1), .float .f32 ((r58 x0 x1 x2 x3).2)], st0) :=
 (show evFn Try.prog ext T38 200 Try.f58 [.agg #[.float .f32 x0, .float .f32 x1], .agg #[.float .f32 x2, .float .f32 x3]] st0 = t58 x0 x1 x2 x3 from by kernel_rfl).trans
 ((show t58 x0 x1 x2 x3 = a58 x0 x1 x2 x3 (r58 x0 x1 x2 x3) from rfl))
def T39 : CallF := addF T38 58 s58
theorem ok39 : CfOk Try.prog T39 := by
  refine cfOk_add ok38 fun args s r s' h1 h2 h3 => ?_
  unfold s58 at h3; split at h3
  · rename_i h; exact callOk ok38 Try.func58 h1 h2 h (e58 _ _ _ _) rfl h3
  · exact ok38 _ _ _ _ _ h1 h2 h3

/-- spec.JoinSpans -/
def r30 (x0 : Nat) (x1 : Nat) (x2 : Nat) (x3 : Nat) : Nat × Nat × Int :=
 cond (((r52 x0 x1 x2 x3) : Int) != 0)
  (0, 0, (r52 x0 x1 x2 x3))
  (((r58 x0 x1 x2 x3).1), ((r58 x0 x1 x2 x3).2), 0)
def s30 (args : List Value) (s : St) : Res :=
 match args, s.h with
 | [.agg ⟨[.float .f32 x0, .float .f32 x1]⟩, .agg ⟨[.float .f32 x2, .float .f32 x3]⟩], [] => some (.tuple #[.agg #[.float .f32 ((r30 x0 x1 x2 x3).1), .float .f32 ((r30 x0 x1 x2 x3).2.1)], .int .i64 ((r30 x0 x1 x2 x3).2.2)], st0)
 | _, _ => T39 30 args s
def a30 (x0 : Nat) (x1 : Nat) (x2 : Nat) (x3 : Nat) (p : Nat × Nat × Int) : Res := some (.tuple #[.agg #[.float .f32 (p.1), .float .f32 (p.2.1)], .int .i64 (p.2.2)], st0)
def t30 (x0 : Nat) (x1 : Nat) (x2 : Nat) (x3 : Nat) : Res :=
 (cond (((r52 x0 x1 x2 x3) : Int) != 0)
 (some (.tuple #[.agg #[.float .f32 0, .float .f32 0], .int .i64 (r52 x0 x1 x2 x3)], st0))
 (some (.tuple #[.agg #[.float .f32 ((r58 x0 x1 x2 x3).1), .float .f32 ((r58 x0 x1 x2 x3).2)], .int .i64 0], st0)))
theorem e30 (x0 : Nat) (x1 : Nat) (x2 : Nat) (x3 : Nat) : evFn Try.prog ext T39 200 Try.f30 [.agg #[.float .f32 x0, .float .f32 x1], .agg #[.float .f32 x2, .float .f32 x3]] st0 = some (.tuple #[.agg #[.float .f32 ((r30 x0 x1 x2 x3).1), .float .f32 ((r30 x0 x1 x2 x3).2.1)], .int .i64 ((r30 x0 x1 x2 x3).2.2)], st0) :=
 (show evFn Try.prog ext T39 200 Try.f30 [.agg #[.float .f32 x0, .float .f32 x1], .agg #[.float .f32 x2, .float .f32 x3]] st0 = t30 x0 x1 x2 x3 from by kernel_rfl).trans
 ((show t30 x0 x1 x2 x3 = a30 x0 x1 x2 x3 (r30 x0 x1 x2 x3) from (cond_app (a30 x0 x1 x2 x3) _ rfl rfl)))
def T40 : CallF := addF T39 30 s30
theorem ok40 : CfOk Try.prog T40 := by
  refine cfOk_add ok39 fun args s r s' h1 h2 h3 => ?_
  unfold s30 at h3; split at h3
  · rename_i h; exact callOk ok39 Try.func30 h1 h2 h (e30 _ _ _ _) rfl h3
  · exact ok39 _ _ _ _ _ h1 h2 h3

/-- impl.lesser -/
def r64 (x0 : Nat) (x1 : Nat) : Nat :=
 cond (flt .f32 x1 x0)
  (x1)
  (x0)
def s64 (args : List Value) (s : St) : Res :=
 match args, s.h with
 | [.float .f32 x0, .float .f32 x1], [] => some (.float .f32 (r64 x0 x1), st0)
 | _, _ => T40 64 args s
def a64 (x0 : Nat) (x1 : Nat) (p : Nat) : Res := some (.float .f32 p, st0)
def t64 (x0 : Nat) (x1 : Nat) : Res :=
 (cond (flt .f32 x1 x0)
 (some (.float .f32 x1, st0))
 (some (.float .f32 x0, st0)))
theorem e64 (x0 : Nat) (x1 : Nat) : evFn Try.prog ext T40 200 Try.f64 [.float .f32 x0, .float .f32 x1] st0 = some (.float .f32 (r64 x0 x1), st0) :=
 (show evFn Try.prog ext T40 200 Try.f64 [.float .f32 x0, .float .f32 x1] st0 = t64 x0 x1 from by kernel_rfl).trans
 ((show t64 x0 x1 = a64 x0 x1 (r64 x0 x1) from (cond_app (a64 x0 x1) _ rfl rfl)))
def T41 : CallF := addF T40 64 s64
theorem ok41 : CfOk Try.prog T41 := by
  refine cfOk_add ok40 fun args s r s' h1 h2 h3 => ?_
  unfold s64 at h3; split at h3
  · rename_i h; exact callOk ok40 Try.func64 h1 h2 h (e64 _ _) rfl h3
  · exact ok40 _ _ _ _ _ h1 h2 h3

/-- impl.greater -/
def r63 (x0 : Nat) (x1 : Nat) : Nat :=
 cond (fgt .f32 x1 x0)
  (x1)
  (x0)
def s63 (args : List Value) (s : St) : Res :=
 match args, s.h with
 | [.float .f32 x0, .float .f32 x1], [] => some (.float .f32 (r63 x0 x1), st0)
 | _, _ => T41 63 args s
def a63 (x0 : Nat) (x1 : Nat) (p : Nat) : Res := some (.float .f32 p, st0)
def t63 (x0 : Nat) (x1 : Nat) : Res :=
 (cond (fgt .f32 x1 x0)
 (some (.float .f32 x1, st0))
 (some (.float .f32 x0, st0)))
theorem e63 (x0 : Nat) (x1 : Nat) : evFn Try.prog ext T41 200 Try.f63 [.float .f32 x0, .float .f32 x1] st0 = some (.float .f32 (r63 x0 x1), st0) :=
 (show evFn Try.prog ext T41 200 Try.f63 [.float .f32 x0, .float .f32 x1] st0 = t63 x0 x1 from by kernel_rfl).trans
 ((show t63 x0 x1 = a63 x0 x1 (r63 x0 x1) from (cond_app (a63 x0 x1) _ rfl rfl)))
def T42 : CallF := addF T41 63 s63
theorem ok42 : CfOk Try.prog T42 := by
  refine cfOk_add ok41 fun args s r s' h1 h2 h3 => ?_
  unfold s63 at h3; split at h3
  · rename_i h; exact callOk ok41 Try.func63 h1 h2 h (e63 _ _) rfl h3
  · exact ok41 _ _ _ _ _ h1 h2 h3

/-- impl.joinSpans -/
def r59 (x0 : Nat) (x1 : Nat) (x2 : Nat) (x3 : Nat) : Nat × Nat :=
 ((r64 x0 x2), (r63 x1 x3))
def s59 (args : List Value) (s : St) : Res :=
 match args, s.h with
 | [.agg ⟨[.float .f32 x0, .float .f32 x1]⟩, .agg ⟨[.float .f32 x2, .float .f32 x3]⟩], [] => some (.agg #[.float .f32 ((r59 x0 x1 x2 x3).1), .float .f32 ((r59 x0 x1 x2 x3).2)], st0)
 | _, _ => T42 59 args s
def a59 (x0 : Nat) (x1 : Nat) (x2 : Nat) (x3 : Nat) (p : Nat × Nat) : Res := some (.agg #[.float .f32 (p.1), .float .f32 (p.2)], st0)
def t59 (x0 : Nat) (x1 : Nat) (x2 : Nat) (x3 : Nat) : Res :=
 (some (.agg #[.float .f32 (r64 x0 x2), .float .f32 (r63 x1 x3)], st0))
theorem e59 (x0 : Nat) (x1 : Nat) (x2 : Nat) (x3 : Nat) : evFn Try.prog ext T42 200 Try.f59 [.agg #[.float .f32 x0, .float .f32 x1], .agg #[.float .f32 x2, .float .f32 x3]] st0 = some (.agg #[.float .f32 ((r59 x0 x1 x2 x3).1), .float .f32 ((r59 x0 x1 x2 x3).2)], st0) :=
 (show evFn Try.prog ext T42 200 Try.f59 [.agg #[.float .f32 x0, .float .f32 x1], .agg #[.float .f32 x2, .float .f32 x3]] st0 = t59 x0 x1 x2 x3 from by kernel_rfl).trans
 ((show t59 x0 x1 x2 x3 = a59 x0 x1 x2 x3 (r59 x0 x1 x2 x3) from rfl))
def T43 : CallF := addF T42 59 s59
theorem ok43 : CfOk Try.prog T43 := by
  refine cfOk_add ok42 fun args s r s' h1 h2 h3 => ?_
  unfold s59 at h3; split at h3
  · rename_i h; exact callOk ok42 Try.func59 h1 h2 h (e59 _ _ _ _) rfl h3
  · exact ok42 _ _ _ _ _ h1 h2 h3

/-- impl.onSpans -/
def r54b (x0 : Nat) (x1 : Nat) (x2 : Nat) (x3 : Nat) : Nat × Nat × Int :=
 cond (!((r62 x0 x1 x2 x3).1))
  (0, 0, 1)
  (((r59 x0 x1 x2 x3).1), ((r59 x0 x1 x2 x3).2), 0)
def s54b (args : List Value) (s : St) : Res :=
 match args, s.h with
 | [.agg ⟨[.float .f32 x0, .float .f32 x1]⟩, .agg ⟨[.float .f32 x2, .float .f32 x3]⟩, .func (.func f0) ⟨[]⟩ ⟨[]⟩], [] => if f0 = 59 then some (.tuple #[.agg #[.float .f32 ((r54b x0 x1 x2 x3).1), .float .f32 ((r54b x0 x1 x2 x3).2.1)], .int .i64 ((r54b x0 x1 x2 x3).2.2)], st0) else T43 54 args s
 | _, _ => T43 54 args s
def a54b (x0 : Nat) (x1 : Nat) (x2 : Nat) (x3 : Nat) (p : Nat × Nat × Int) : Res := some (.tuple #[.agg #[.float .f32 (p.1), .float .f32 (p.2.1)], .int .i64 (p.2.2)], st0)
def t54b (x0 : Nat) (x1 : Nat) (x2 : Nat) (x3 : Nat) : Res :=
 (cond (!((r62 x0 x1 x2 x3).1))
 (some (.tuple #[.agg #[.float .f32 0, .float .f32 0], .int .i64 1], st0))
 (some (.tuple #[.agg #[.float .f32 ((r59 x0 x1 x2 x3).1), .float .f32 ((r59 x0 x1 x2 x3).2)], .int .i64 0], st0)))
theorem e54b (x0 : Nat) (x1 : Nat) (x2 : Nat) (x3 : Nat) : evFn Try.prog ext T43 200 Try.f54 [.agg #[.float .f32 x0, .float .f32 x1], .agg #[.float .f32 x2, .float .f32 x3], .func (.func 59) #[] #[]] st0 = some (.tuple #[.agg #[.float .f32 ((r54b x0 x1 x2 x3).1), .float .f32 ((r54b x0 x1 x2 x3).2.1)], .int .i64 ((r54b x0 x1 x2 x3).2.2)], st0) :=
 (show evFn Try.prog ext T43 200 Try.f54 [.agg #[.float .f32 x0, .float .f32 x1], .agg #[.float .f32 x2, .float .f32 x3], .func (.func 59) #[] #[]] st0 = t54b x0 x1 x2 x3 from by kernel_rfl).trans
 ((show t54b x0 x1 x2 x3 = a54b x0 x1 x2 x3 (r54b x0 x1 x2 x3) from (cond_app (a54b x0 x1 x2 x3) _ rfl rfl)))
def T44 : CallF := addF T43 54 s54b
theorem ok44 : CfOk Try.prog T44 := by
  refine cfOk_add ok43 fun args s r s' h1 h2 h3 => ?_
  unfold s54b at h3; split at h3
  · rename_i h; split at h3
    · rename_i hc; obtain ⟨rfl⟩ := hc; exact callOk ok43 Try.func54 h1 h2 h (e54b _ _ _ _) rfl h3
    · exact ok43 _ _ _ _ _ h1 h2 h3
  · exact ok43 _ _ _ _ _ h1 h2 h3

/-- impl.JoinSpans -/
def r31 (x0 : Nat) (x1 : Nat) (x2 : Nat) (x3 : Nat) : Nat × Nat × Int :=
 (((r54b x0 x1 x2 x3).1), ((r54b x0 x1 x2 x3).2.1), ((r54b x0 x1 x2 x3).2.2))
def s31 (args : List Value) (s : St) : Res :=
 match args, s.h with
 | [.agg ⟨[.float .f32 x0, .float .f32 x1]⟩, .agg ⟨[.float .f32 x2, .float .f32 x3]⟩], [] => some (.tuple #[.agg #[.float .f32 ((r31 x0 x1 x2 x3).1), .float .f32 ((r31 x0 x1 x2 x3).2.1)], .int .i64 ((r31 x0 x1 x2 x3).2.2)], st0)
 | _, _ => T44 31 args s
def a31 (x0 : Nat) (x1 : Nat) (x2 : Nat) (x3 : Nat) (p : Nat × Nat × Int) : Res := some (.tuple #[.agg #[.float .f32 (p.1), .float .f32 (p.2.1)], .int .i64 (p.2.2)], st0)
def t31 (x0 : Nat) (x1 : Nat) (x2 : Nat) (x3 : Nat) : Res :=
 (some (.tuple #[.agg #[.float .f32 ((r54b x0 x1 x2 x3).1), .float .f32 ((r54b x0 x1 x2 x3).2.1)], .int .i64 ((r54b x0 x1 x2 x3).2.2)], st0))
theorem e31 (x0 : Nat) (x1 : Nat) (x2 : Nat) (x3 : Nat) : evFn Try.prog ext T44 200 Try.f31 [.agg #[.float .f32 x0, .float .f32 x1], .agg #[.float .f32 x2, .float .f32 x3]] st0 = some (.tuple #[.agg #[.float .f32 ((r31 x0 x1 x2 x3).1), .float .f32 ((r31 x0 x1 x2 x3).2.1)], .int .i64 ((r31 x0 x1 x2 x3).2.2)], st0) :=
 (show evFn Try.prog ext T44 200 Try.f31 [.agg #[.float .f32 x0, .float .f32 x1], .agg #[.float .f32 x2, .float .f32 x3]] st0 = t31 x0 x1 x2 x3 from by kernel_rfl).trans
 ((show t31 x0 x1 x2 x3 = a31 x0 x1 x2 x3 (r31 x0 x1 x2 x3) from rfl))
def T45 : CallF := addF T44 31 s31
theorem ok45 : CfOk Try.prog T45 := by
  refine cfOk_add ok44 fun args s r s' h1 h2 h3 => ?_
  unfold s31 at h3; split at h3
  · rename_i h; exact callOk ok44 Try.func31 h1 h2 h (e31 _ _ _ _) rfl h3
  · exact ok44 _ _ _ _ _ h1 h2 h3

/-- laws.FnExactJoinSpans -/
def r9 (x0 : Nat) (x1 : Nat) (x2 : Nat) (x3 : Nat) : Bool :=
 cond (!(r27 ((r31 ((r16 x0 x1).1) ((r16 x0 x1).2) ((r16 x2 x3).1) ((r16 x2 x3).2)).1) ((r31 ((r16 x0 x1).1) ((r16 x0 x1).2) ((r16 x2 x3).1) ((r16 x2 x3).2)).2.1) ((r30 ((r16 x0 x1).1) ((r16 x0 x1).2) ((r16 x2 x3).1) ((r16 x2 x3).2)).1) ((r30 ((r16 x0 x1).1) ((r16 x0 x1).2) ((r16 x2 x3).1) ((r16 x2 x3).2)).2.1)))
  (false)
  (cond ((((r31 ((r16 x0 x1).1) ((r16 x0 x1).2) ((r16 x2 x3).1) ((r16 x2 x3).2)).2.2) : Int) != ((r30 ((r16 x0 x1).1) ((r16 x0 x1).2) ((r16 x2 x3).1) ((r16 x2 x3).2)).2.2))
   (false)
   (true))
def s9 (args : List Value) (s : St) : Res :=
 match args, s.h with
 | [.agg ⟨[.float .f32 x0, .float .f32 x1]⟩, .agg ⟨[.float .f32 x2, .float .f32 x3]⟩], [] => some (.bool (r9 x0 x1 x2 x3), st0)
 | _, _ => T45 9 args s
def a9 (x0 : Nat) (x1 : Nat) (x2 : Nat) (x3 : Nat) (p : Bool) : Res := some (.bool p, st0)
def t9 (x0 : Nat) (x1 : Nat) (x2 : Nat) (x3 : Nat) : Res :=
 (cond (!(r27 ((r31 ((r16 x0 x1).1) ((r16 x0 x1).2) ((r16 x2 x3).1) ((r16 x2 x3).2)).1) ((r31 ((r16 x0 x1).1) ((r16 x0 x1).2) ((r16 x2 x3).1) ((r16 x2 x3).2)).2.1) ((r30 ((r16 x0 x1).1) ((r16 x0 x1).2) ((r16 x2 x3).1) ((r16 x2 x3).2)).1) ((r30 ((r16 x0 x1).1) ((r16 x0 x1).2) ((r16 x2 x3).1) ((r16 x2 x3).2)).2.1)))
 (some (.bool false, st0))
 (cond ((((r31 ((r16 x0 x1).1) ((r16 x0 x1).2) ((r16 x2 x3).1) ((r16 x2 x3).2)).2.2) : Int) != ((r30 ((r16 x0 x1).1) ((r16 x0 x1).2) ((r16 x2 x3).1) ((r16 x2 x3).2)).2.2))
  (some (.bool false, st0))
  (some (.bool true, st0))))
theorem e9 (x0 : Nat) (x1 : Nat) (x2 : Nat) (x3 : Nat) : evFn Try.prog ext T45 200 Try.f9 [.agg #[.float .f32 x0, .float .f32 x1], .agg #[.float .f32 x2, .float .f32 x3]] st0 = some (.bool (r9 x0 x1 x2 x3), st0) :=
 (show evFn Try.prog ext T45 200 Try.f9 [.agg #[.float .f32 x0, .float .f32 x1], .agg #[.float .f32 x2, .float .f32 x3]] st0 = t9 x0 x1 x2 x3 from by kernel_rfl).trans
 ((show t9 x0 x1 x2 x3 = a9 x0 x1 x2 x3 (r9 x0 x1 x2 x3) from (cond_app (a9 x0 x1 x2 x3) _ rfl (cond_app (a9 x0 x1 x2 x3) _ rfl rfl))))
def T46 : CallF := addF T45 9 s9
theorem ok46 : CfOk Try.prog T46 := by
  refine cfOk_add ok45 fun args s r s' h1 h2 h3 => ?_
  unfold s9 at h3; split at h3
  · rename_i h; exact callOk ok45 Try.func9 h1 h2 h (e9 _ _ _ _) rfl h3
  · exact ok45 _ _ _ _ _ h1 h2 h3
end Go.Proofs.Ytpeehlgiddbfpaa
