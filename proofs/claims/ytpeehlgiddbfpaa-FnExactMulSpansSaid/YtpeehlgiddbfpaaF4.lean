/- What the functions that FnExactNextDown reaches answer. -/
import Derived.Test.YtpeehlgiddbfpaaF3
namespace Go.Proofs.Ytpeehlgiddbfpaa
open Go.Ab

/-- spec.l05Down -/
def r51 (x0 : Nat) : Nat :=
 ((fneg .f32 (r47 (fneg .f32 x0))))
def s51 (args : List Value) (s : St) : Res :=
 match args, s.h with
 | [.float .f32 x0], [] => some (.float .f32 (r51 x0), st0)
 | _, _ => T16 51 args s
def a51 (x0 : Nat) (p : Nat) : Res := some (.float .f32 p, st0)
def t51 (x0 : Nat) : Res :=
 (some (.float .f32 (fneg .f32 (r47 (fneg .f32 x0))), st0))
theorem e51 (x0 : Nat) : evFn Try.prog ext T16 200 Try.f51 [.float .f32 x0] st0 = some (.float .f32 (r51 x0), st0) :=
 (show evFn Try.prog ext T16 200 Try.f51 [.float .f32 x0] st0 = t51 x0 from by kernel_rfl).trans
 ((show t51 x0 = a51 x0 (r51 x0) from rfl))
def T17 : CallF := addF T16 51 s51
theorem ok17 : CfOk Try.prog T17 := by
  refine cfOk_add ok16 fun args s r s' h1 h2 h3 => ?_
  unfold s51 at h3; split at h3
  · rename_i h; exact callOk ok16 Try.func51 h1 h2 h (e51 _) rfl h3
  · exact ok16 _ _ _ _ _ h1 h2 h3

/-- spec.NextDown -/
def r23 (x0 : Nat) : Nat :=
 ((r51 x0))
def s23 (args : List Value) (s : St) : Res :=
 match args, s.h with
 | [.float .f32 x0], [] => some (.float .f32 (r23 x0), st0)
 | _, _ => T17 23 args s
def a23 (x0 : Nat) (p : Nat) : Res := some (.float .f32 p, st0)
def t23 (x0 : Nat) : Res :=
 (some (.float .f32 (r51 x0), st0))
theorem e23 (x0 : Nat) : evFn Try.prog ext T17 200 Try.f23 [.float .f32 x0] st0 = some (.float .f32 (r23 x0), st0) :=
 (show evFn Try.prog ext T17 200 Try.f23 [.float .f32 x0] st0 = t23 x0 from by kernel_rfl).trans
 ((show t23 x0 = a23 x0 (r23 x0) from rfl))
def T18 : CallF := addF T17 23 s23
theorem ok18 : CfOk Try.prog T18 := by
  refine cfOk_add ok17 fun args s r s' h1 h2 h3 => ?_
  unfold s23 at h3; split at h3
  · rename_i h; exact callOk ok17 Try.func23 h1 h2 h (e23 _) rfl h3
  · exact ok17 _ _ _ _ _ h1 h2 h3

/-- impl.NextDown -/
def r24 (x0 : Nat) : Nat :=
 ((fneg .f32 (r21 (fneg .f32 x0))))
def s24 (args : List Value) (s : St) : Res :=
 match args, s.h with
 | [.float .f32 x0], [] => some (.float .f32 (r24 x0), st0)
 | _, _ => T18 24 args s
def a24 (x0 : Nat) (p : Nat) : Res := some (.float .f32 p, st0)
def t24 (x0 : Nat) : Res :=
 (some (.float .f32 (fneg .f32 (r21 (fneg .f32 x0))), st0))
theorem e24 (x0 : Nat) : evFn Try.prog ext T18 200 Try.f24 [.float .f32 x0] st0 = some (.float .f32 (r24 x0), st0) :=
 (show evFn Try.prog ext T18 200 Try.f24 [.float .f32 x0] st0 = t24 x0 from by kernel_rfl).trans
 ((show t24 x0 = a24 x0 (r24 x0) from rfl))
def T19 : CallF := addF T18 24 s24
theorem ok19 : CfOk Try.prog T19 := by
  refine cfOk_add ok18 fun args s r s' h1 h2 h3 => ?_
  unfold s24 at h3; split at h3
  · rename_i h; exact callOk ok18 Try.func24 h1 h2 h (e24 _) rfl h3
  · exact ok18 _ _ _ _ _ h1 h2 h3

/-- laws.FnExactNextDown -/
def r6 (x0 : Nat) : Bool :=
 cond (!(r22 (widen (r24 x0)) (widen (r23 x0))))
  (false)
  (true)
def s6 (args : List Value) (s : St) : Res :=
 match args, s.h with
 | [.float .f32 x0], [] => some (.bool (r6 x0), st0)
 | _, _ => T19 6 args s
def a6 (x0 : Nat) (p : Bool) : Res := some (.bool p, st0)
def t6 (x0 : Nat) : Res :=
 (cond (!(r22 (widen (r24 x0)) (widen (r23 x0))))
 (some (.bool false, st0))
 (some (.bool true, st0)))
theorem e6 (x0 : Nat) : evFn Try.prog ext T19 200 Try.f6 [.float .f32 x0] st0 = some (.bool (r6 x0), st0) :=
 (show evFn Try.prog ext T19 200 Try.f6 [.float .f32 x0] st0 = t6 x0 from by kernel_rfl).trans
 ((show t6 x0 = a6 x0 (r6 x0) from (cond_app (a6 x0) _ rfl rfl)))
def T20 : CallF := addF T19 6 s6
theorem ok20 : CfOk Try.prog T20 := by
  refine cfOk_add ok19 fun args s r s' h1 h2 h3 => ?_
  unfold s6 at h3; split at h3
  · rename_i h; exact callOk ok19 Try.func6 h1 h2 h (e6 _) rfl h3
  · exact ok19 _ _ _ _ _ h1 h2 h3
end Go.Proofs.Ytpeehlgiddbfpaa
