/- What the functions that FnExactInSpan reaches answer. -/
import Derived.Test.YtpeehlgiddbfpaaF1
namespace Go.Proofs.Ytpeehlgiddbfpaa
open Go.Ab

/-- spec.l05In -/
def r46 (x0 : Nat) (x1 : Nat) (x2 : Nat) : Bool :=
 cond (r45 x0 x1)
  (cond (fgt .f32 x2 x0 || feq .f32 x2 x0)
   ((flt .f32 x2 x1 || feq .f32 x2 x1))
   (false))
  (false)
def s46 (args : List Value) (s : St) : Res :=
 match args, s.h with
 | [.agg ⟨[.float .f32 x0, .float .f32 x1]⟩, .float .f32 x2], [] => some (.bool (r46 x0 x1 x2), st0)
 | _, _ => T5 46 args s
def a46 (x0 : Nat) (x1 : Nat) (x2 : Nat) (p : Bool) : Res := some (.bool p, st0)
def t46 (x0 : Nat) (x1 : Nat) (x2 : Nat) : Res :=
 (cond (r45 x0 x1)
 (cond (fgt .f32 x2 x0 || feq .f32 x2 x0)
  (some (.bool (flt .f32 x2 x1 || feq .f32 x2 x1), st0))
  (some (.bool false, st0)))
 (some (.bool false, st0)))
theorem e46 (x0 : Nat) (x1 : Nat) (x2 : Nat) : evFn Try.prog ext T5 200 Try.f46 [.agg #[.float .f32 x0, .float .f32 x1], .float .f32 x2] st0 = some (.bool (r46 x0 x1 x2), st0) :=
 (show evFn Try.prog ext T5 200 Try.f46 [.agg #[.float .f32 x0, .float .f32 x1], .float .f32 x2] st0 = t46 x0 x1 x2 from by kernel_rfl).trans
 ((show t46 x0 x1 x2 = a46 x0 x1 x2 (r46 x0 x1 x2) from (cond_app (a46 x0 x1 x2) _ (cond_app (a46 x0 x1 x2) _ rfl rfl) rfl)))
def T6 : CallF := addF T5 46 s46
theorem ok6 : CfOk Try.prog T6 := by
  refine cfOk_add ok5 fun args s r s' h1 h2 h3 => ?_
  unfold s46 at h3; split at h3
  · rename_i h; exact callOk ok5 Try.func46 h1 h2 h (e46 _ _ _) rfl h3
  · exact ok5 _ _ _ _ _ h1 h2 h3

/-- spec.InSpan -/
def r18 (x0 : Nat) (x1 : Nat) (x2 : Nat) : Bool :=
 ((r46 x0 x1 x2))
def s18 (args : List Value) (s : St) : Res :=
 match args, s.h with
 | [.agg ⟨[.float .f32 x0, .float .f32 x1]⟩, .float .f32 x2], [] => some (.bool (r18 x0 x1 x2), st0)
 | _, _ => T6 18 args s
def a18 (x0 : Nat) (x1 : Nat) (x2 : Nat) (p : Bool) : Res := some (.bool p, st0)
def t18 (x0 : Nat) (x1 : Nat) (x2 : Nat) : Res :=
 (some (.bool (r46 x0 x1 x2), st0))
theorem e18 (x0 : Nat) (x1 : Nat) (x2 : Nat) : evFn Try.prog ext T6 200 Try.f18 [.agg #[.float .f32 x0, .float .f32 x1], .float .f32 x2] st0 = some (.bool (r18 x0 x1 x2), st0) :=
 (show evFn Try.prog ext T6 200 Try.f18 [.agg #[.float .f32 x0, .float .f32 x1], .float .f32 x2] st0 = t18 x0 x1 x2 from by kernel_rfl).trans
 ((show t18 x0 x1 x2 = a18 x0 x1 x2 (r18 x0 x1 x2) from rfl))
def T7 : CallF := addF T6 18 s18
theorem ok7 : CfOk Try.prog T7 := by
  refine cfOk_add ok6 fun args s r s' h1 h2 h3 => ?_
  unfold s18 at h3; split at h3
  · rename_i h; exact callOk ok6 Try.func18 h1 h2 h (e18 _ _ _) rfl h3
  · exact ok6 _ _ _ _ _ h1 h2 h3

/-- impl.InSpan -/
def r19 (x0 : Nat) (x1 : Nat) (x2 : Nat) : Bool :=
 cond (r17 x0 x1)
  (cond (flt .f32 x0 x2 || feq .f32 x0 x2)
   ((flt .f32 x2 x1 || feq .f32 x2 x1))
   (false))
  (false)
def s19 (args : List Value) (s : St) : Res :=
 match args, s.h with
 | [.agg ⟨[.float .f32 x0, .float .f32 x1]⟩, .float .f32 x2], [] => some (.bool (r19 x0 x1 x2), st0)
 | _, _ => T7 19 args s
def a19 (x0 : Nat) (x1 : Nat) (x2 : Nat) (p : Bool) : Res := some (.bool p, st0)
def t19 (x0 : Nat) (x1 : Nat) (x2 : Nat) : Res :=
 (cond (r17 x0 x1)
 (cond (flt .f32 x0 x2 || feq .f32 x0 x2)
  (some (.bool (flt .f32 x2 x1 || feq .f32 x2 x1), st0))
  (some (.bool false, st0)))
 (some (.bool false, st0)))
theorem e19 (x0 : Nat) (x1 : Nat) (x2 : Nat) : evFn Try.prog ext T7 200 Try.f19 [.agg #[.float .f32 x0, .float .f32 x1], .float .f32 x2] st0 = some (.bool (r19 x0 x1 x2), st0) :=
 (show evFn Try.prog ext T7 200 Try.f19 [.agg #[.float .f32 x0, .float .f32 x1], .float .f32 x2] st0 = t19 x0 x1 x2 from by kernel_rfl).trans
 ((show t19 x0 x1 x2 = a19 x0 x1 x2 (r19 x0 x1 x2) from (cond_app (a19 x0 x1 x2) _ (cond_app (a19 x0 x1 x2) _ rfl rfl) rfl)))
def T8 : CallF := addF T7 19 s19
theorem ok8 : CfOk Try.prog T8 := by
  refine cfOk_add ok7 fun args s r s' h1 h2 h3 => ?_
  unfold s19 at h3; split at h3
  · rename_i h; exact callOk ok7 Try.func19 h1 h2 h (e19 _ _ _) rfl h3
  · exact ok7 _ _ _ _ _ h1 h2 h3

/-- laws.FnExactInSpan -/
def r4 (x0 : Nat) (x1 : Nat) (x2 : Nat) : Bool :=
 cond (!((r19 ((r16 x0 x1).1) ((r16 x0 x1).2) x2) == (r18 ((r16 x0 x1).1) ((r16 x0 x1).2) x2)))
  (false)
  (true)
def s4 (args : List Value) (s : St) : Res :=
 match args, s.h with
 | [.agg ⟨[.float .f32 x0, .float .f32 x1]⟩, .float .f32 x2], [] => some (.bool (r4 x0 x1 x2), st0)
 | _, _ => T8 4 args s
def a4 (x0 : Nat) (x1 : Nat) (x2 : Nat) (p : Bool) : Res := some (.bool p, st0)
def t4 (x0 : Nat) (x1 : Nat) (x2 : Nat) : Res :=
 (cond (!((r19 ((r16 x0 x1).1) ((r16 x0 x1).2) x2) == (r18 ((r16 x0 x1).1) ((r16 x0 x1).2) x2)))
 (some (.bool false, st0))
 (some (.bool true, st0)))
theorem e4 (x0 : Nat) (x1 : Nat) (x2 : Nat) : evFn Try.prog ext T8 200 Try.f4 [.agg #[.float .f32 x0, .float .f32 x1], .float .f32 x2] st0 = some (.bool (r4 x0 x1 x2), st0) :=
 (show evFn Try.prog ext T8 200 Try.f4 [.agg #[.float .f32 x0, .float .f32 x1], .float .f32 x2] st0 = t4 x0 x1 x2 from by kernel_rfl).trans
 ((show t4 x0 x1 x2 = a4 x0 x1 x2 (r4 x0 x1 x2) from (cond_app (a4 x0 x1 x2) _ rfl rfl)))
def T9 : CallF := addF T8 4 s4
theorem ok9 : CfOk Try.prog T9 := by
  refine cfOk_add ok8 fun args s r s' h1 h2 h3 => ?_
  unfold s4 at h3; split at h3
  · rename_i h; exact callOk ok8 Try.func4 h1 h2 h (e4 _ _ _) rfl h3
  · exact ok8 _ _ _ _ _ h1 h2 h3
end Go.Proofs.Ytpeehlgiddbfpaa
