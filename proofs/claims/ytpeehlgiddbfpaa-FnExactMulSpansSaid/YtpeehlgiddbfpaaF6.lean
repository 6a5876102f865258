/- What the functions that FnExactWidthOf reaches answer. -/
import Derived.Test.YtpeehlgiddbfpaaF5
namespace Go.Proofs.Ytpeehlgiddbfpaa
open Go.Ab

/-- spec.l01Finite -/
def r56 (x0 : Nat) : Bool :=
 ((feq .f32 (fsub .f32 x0 x0) 0))
def s56 (args : List Value) (s : St) : Res :=
 match args, s.h with
 | [.float .f32 x0], [] => some (.bool (r56 x0), st0)
 | _, _ => T29 56 args s
def a56 (x0 : Nat) (p : Bool) : Res := some (.bool p, st0)
def t56 (x0 : Nat) : Res :=
 (some (.bool (feq .f32 (fsub .f32 x0 x0) 0), st0))
theorem e56 (x0 : Nat) : evFn Try.prog ext T29 200 Try.f56 [.float .f32 x0] st0 = some (.bool (r56 x0), st0) :=
 (show evFn Try.prog ext T29 200 Try.f56 [.float .f32 x0] st0 = t56 x0 from by kernel_rfl).trans
 ((show t56 x0 = a56 x0 (r56 x0) from rfl))
def T30 : CallF := addF T29 56 s56
theorem ok30 : CfOk Try.prog T30 := by
  refine cfOk_add ok29 fun args s r s' h1 h2 h3 => ?_
  unfold s56 at h3; split at h3
  · rename_i h; exact callOk ok29 Try.func56 h1 h2 h (e56 _) rfl h3
  · exact ok29 _ _ _ _ _ h1 h2 h3

/-- spec.WidthOf -/
def r28 (x0 : Nat) (x1 : Nat) : Nat × Int :=
 cond (!(r45 x0 x1))
  (0, 1)
  (cond (!(r56 (fsub .f32 x1 x0)))
   (0, 4)
   ((fsub .f32 x1 x0), 0))
def s28 (args : List Value) (s : St) : Res :=
 match args, s.h with
 | [.agg ⟨[.float .f32 x0, .float .f32 x1]⟩], [] => some (.tuple #[.float .f32 ((r28 x0 x1).1), .int .i64 ((r28 x0 x1).2)], st0)
 | _, _ => T30 28 args s
def a28 (x0 : Nat) (x1 : Nat) (p : Nat × Int) : Res := some (.tuple #[.float .f32 (p.1), .int .i64 (p.2)], st0)
def t28 (x0 : Nat) (x1 : Nat) : Res :=
 (cond (!(r45 x0 x1))
 (some (.tuple #[.float .f32 0, .int .i64 1], st0))
 (cond (!(r56 (fsub .f32 x1 x0)))
  (some (.tuple #[.float .f32 0, .int .i64 4], st0))
  (some (.tuple #[.float .f32 (fsub .f32 x1 x0), .int .i64 0], st0))))
theorem e28 (x0 : Nat) (x1 : Nat) : evFn Try.prog ext T30 200 Try.f28 [.agg #[.float .f32 x0, .float .f32 x1]] st0 = some (.tuple #[.float .f32 ((r28 x0 x1).1), .int .i64 ((r28 x0 x1).2)], st0) :=
 (show evFn Try.prog ext T30 200 Try.f28 [.agg #[.float .f32 x0, .float .f32 x1]] st0 = t28 x0 x1 from by kernel_rfl).trans
 ((show t28 x0 x1 = a28 x0 x1 (r28 x0 x1) from (cond_app (a28 x0 x1) _ rfl (cond_app (a28 x0 x1) _ rfl rfl))))
def T31 : CallF := addF T30 28 s28
theorem ok31 : CfOk Try.prog T31 := by
  refine cfOk_add ok30 fun args s r s' h1 h2 h3 => ?_
  unfold s28 at h3; split at h3
  · rename_i h; exact callOk ok30 Try.func28 h1 h2 h (e28 _ _) rfl h3
  · exact ok30 _ _ _ _ _ h1 h2 h3

/-- math.IsNaN -/
def r87 (x0 : Nat) : Bool :=
 ((!feq .f64 x0 x0))
def s87 (args : List Value) (s : St) : Res :=
 match args, s.h with
 | [.float .f64 x0], [] => some (.bool (r87 x0), st0)
 | _, _ => T31 87 args s
def a87 (x0 : Nat) (p : Bool) : Res := some (.bool p, st0)
def t87 (x0 : Nat) : Res :=
 (some (.bool (!feq .f64 x0 x0), st0))
theorem e87 (x0 : Nat) : evFn Try.prog ext T31 200 Try.f87 [.float .f64 x0] st0 = some (.bool (r87 x0), st0) :=
 (show evFn Try.prog ext T31 200 Try.f87 [.float .f64 x0] st0 = t87 x0 from by kernel_rfl).trans
 ((show t87 x0 = a87 x0 (r87 x0) from rfl))
def T32 : CallF := addF T31 87 s87
theorem ok32 : CfOk Try.prog T32 := by
  refine cfOk_add ok31 fun args s r s' h1 h2 h3 => ?_
  unfold s87 at h3; split at h3
  · rename_i h; exact callOk ok31 Try.func87 h1 h2 h (e87 _) rfl h3
  · exact ok31 _ _ _ _ _ h1 h2 h3

/-- impl.isFinite -/
def r75 (x0 : Nat) : Bool × Nat :=
 cond (r87 (widen x0))
  (false, x0)
  (cond (r49 (widen x0) 0)
   (false, x0)
   (true, x0))
def s75 (args : List Value) (s : St) : Res :=
 match args, s.h with
 | [.slice (some ⟨b0, o0, some s0⟩) l0 c0], [⟨true, some (.tab [.fl .f32] [[.ofNat x0]])⟩] => if b0 = 0 ∧ o0 = 0 ∧ s0 = 0 ∧ l0 = 1 ∧ c0 = 1 then some (.bool ((r75 x0).1), ⟨[⟨true, (some (.tab [.fl .f32] [[((((r75 x0).2) : Nat) : Int)]]))⟩], 1, false⟩) else T32 75 args s
 | _, _ => T32 75 args s
def a75 (x0 : Nat) (p : Bool × Nat) : Res := some (.bool (p.1), ⟨[⟨true, (some (.tab [.fl .f32] [[(((p.2) : Nat) : Int)]]))⟩], 1, false⟩)
def t75 (x0 : Nat) : Res :=
 (cond (r87 (widen x0))
 (some (.bool false, ⟨[⟨true, (some (.tab [.fl .f32] [[((x0 : Nat) : Int)]]))⟩], 1, false⟩))
 (cond (r49 (widen x0) 0)
  (some (.bool false, ⟨[⟨true, (some (.tab [.fl .f32] [[((x0 : Nat) : Int)]]))⟩], 1, false⟩))
  (some (.bool true, ⟨[⟨true, (some (.tab [.fl .f32] [[((x0 : Nat) : Int)]]))⟩], 1, false⟩))))
theorem e75 (x0 : Nat) : evFn Try.prog ext T32 200 Try.f75 [.slice (some ⟨0, 0, some 0⟩) 1 1] ⟨[⟨true, (some (.tab [.fl .f32] [[((x0 : Nat) : Int)]]))⟩], 1, false⟩ = some (.bool ((r75 x0).1), ⟨[⟨true, (some (.tab [.fl .f32] [[((((r75 x0).2) : Nat) : Int)]]))⟩], 1, false⟩) :=
 (show evFn Try.prog ext T32 200 Try.f75 [.slice (some ⟨0, 0, some 0⟩) 1 1] ⟨[⟨true, (some (.tab [.fl .f32] [[((x0 : Nat) : Int)]]))⟩], 1, false⟩ = t75 x0 from by kernel_rfl).trans
 ((show t75 x0 = a75 x0 (r75 x0) from (cond_app (a75 x0) _ rfl (cond_app (a75 x0) _ rfl rfl))))
def T33 : CallF := addF T32 75 s75
theorem ok33 : CfOk Try.prog T33 := by
  refine cfOk_add ok32 fun args s r s' h1 h2 h3 => ?_
  unfold s75 at h3; split at h3
  · rename_i h; split at h3
    · rename_i hc; obtain ⟨rfl, rfl, rfl, rfl, rfl⟩ := hc; exact callOk ok32 Try.func75 h1 h2 h (e75 _) rfl h3
    · exact ok32 _ _ _ _ _ h1 h2 h3
  · exact ok32 _ _ _ _ _ h1 h2 h3

/-- impl.finite -/
def r57 (x0 : Nat) : Nat × Int :=
 cond (!((r75 x0).1))
  (0, 4)
  (x0, 0)
def s57 (args : List Value) (s : St) : Res :=
 match args, s.h with
 | [.float .f32 x0], [] => some (.tuple #[.float .f32 ((r57 x0).1), .int .i64 ((r57 x0).2)], st0)
 | _, _ => T33 57 args s
def a57 (x0 : Nat) (p : Nat × Int) : Res := some (.tuple #[.float .f32 (p.1), .int .i64 (p.2)], st0)
def t57 (x0 : Nat) : Res :=
 (cond (!((r75 x0).1))
 (some (.tuple #[.float .f32 0, .int .i64 4], st0))
 (some (.tuple #[.float .f32 x0, .int .i64 0], st0)))
theorem e57 (x0 : Nat) : evFn Try.prog ext T33 200 Try.f57 [.float .f32 x0] st0 = some (.tuple #[.float .f32 ((r57 x0).1), .int .i64 ((r57 x0).2)], st0) :=
 (show evFn Try.prog ext T33 200 Try.f57 [.float .f32 x0] st0 = t57 x0 from by kernel_rfl).trans
 ((show t57 x0 = a57 x0 (r57 x0) from (cond_app (a57 x0) _ rfl rfl)))
def T34 : CallF := addF T33 57 s57
theorem ok34 : CfOk Try.prog T34 := by
  refine cfOk_add ok33 fun args s r s' h1 h2 h3 => ?_
  unfold s57 at h3; split at h3
  · rename_i h; exact callOk ok33 Try.func57 h1 h2 h (e57 _) rfl h3
  · exact ok33 _ _ _ _ _ h1 h2 h3

/-- impl.WidthOf -/
def r29 (x0 : Nat) (x1 : Nat) : Nat × Int :=
 cond (!(r17 x0 x1))
  (0, 1)
  (((r57 (fsub .f32 x1 x0)).1), ((r57 (fsub .f32 x1 x0)).2))
def s29 (args : List Value) (s : St) : Res :=
 match args, s.h with
 | [.agg ⟨[.float .f32 x0, .float .f32 x1]⟩], [] => some (.tuple #[.float .f32 ((r29 x0 x1).1), .int .i64 ((r29 x0 x1).2)], st0)
 | _, _ => T34 29 args s
def a29 (x0 : Nat) (x1 : Nat) (p : Nat × Int) : Res := some (.tuple #[.float .f32 (p.1), .int .i64 (p.2)], st0)
def t29 (x0 : Nat) (x1 : Nat) : Res :=
 (cond (!(r17 x0 x1))
 (some (.tuple #[.float .f32 0, .int .i64 1], st0))
 (some (.tuple #[.float .f32 ((r57 (fsub .f32 x1 x0)).1), .int .i64 ((r57 (fsub .f32 x1 x0)).2)], st0)))
theorem e29 (x0 : Nat) (x1 : Nat) : evFn Try.prog ext T34 200 Try.f29 [.agg #[.float .f32 x0, .float .f32 x1]] st0 = some (.tuple #[.float .f32 ((r29 x0 x1).1), .int .i64 ((r29 x0 x1).2)], st0) :=
 (show evFn Try.prog ext T34 200 Try.f29 [.agg #[.float .f32 x0, .float .f32 x1]] st0 = t29 x0 x1 from by kernel_rfl).trans
 ((show t29 x0 x1 = a29 x0 x1 (r29 x0 x1) from (cond_app (a29 x0 x1) _ rfl rfl)))
def T35 : CallF := addF T34 29 s29
theorem ok35 : CfOk Try.prog T35 := by
  refine cfOk_add ok34 fun args s r s' h1 h2 h3 => ?_
  unfold s29 at h3; split at h3
  · rename_i h; exact callOk ok34 Try.func29 h1 h2 h (e29 _ _) rfl h3
  · exact ok34 _ _ _ _ _ h1 h2 h3

/-- laws.FnExactWidthOf -/
def r8 (x0 : Nat) (x1 : Nat) : Bool :=
 cond (!(r22 (widen ((r29 ((r16 x0 x1).1) ((r16 x0 x1).2)).1)) (widen ((r28 ((r16 x0 x1).1) ((r16 x0 x1).2)).1))))
  (false)
  (cond ((((r29 ((r16 x0 x1).1) ((r16 x0 x1).2)).2) : Int) != ((r28 ((r16 x0 x1).1) ((r16 x0 x1).2)).2))
   (false)
   (true))
def s8 (args : List Value) (s : St) : Res :=
 match args, s.h with
 | [.agg ⟨[.float .f32 x0, .float .f32 x1]⟩], [] => some (.bool (r8 x0 x1), st0)
 | _, _ => T35 8 args s
def a8 (x0 : Nat) (x1 : Nat) (p : Bool) : Res := some (.bool p, st0)
def t8 (x0 : Nat) (x1 : Nat) : Res :=
 (cond (!(r22 (widen ((r29 ((r16 x0 x1).1) ((r16 x0 x1).2)).1)) (widen ((r28 ((r16 x0 x1).1) ((r16 x0 x1).2)).1))))
 (some (.bool false, st0))
 (cond ((((r29 ((r16 x0 x1).1) ((r16 x0 x1).2)).2) : Int) != ((r28 ((r16 x0 x1).1) ((r16 x0 x1).2)).2))
  (some (.bool false, st0))
  (some (.bool true, st0))))
theorem e8 (x0 : Nat) (x1 : Nat) : evFn Try.prog ext T35 200 Try.f8 [.agg #[.float .f32 x0, .float .f32 x1]] st0 = some (.bool (r8 x0 x1), st0) :=
 (show evFn Try.prog ext T35 200 Try.f8 [.agg #[.float .f32 x0, .float .f32 x1]] st0 = t8 x0 x1 from by kernel_rfl).trans
 ((show t8 x0 x1 = a8 x0 x1 (r8 x0 x1) from (cond_app (a8 x0 x1) _ rfl (cond_app (a8 x0 x1) _ rfl rfl))))
def T36 : CallF := addF T35 8 s8
theorem ok36 : CfOk Try.prog T36 := by
  refine cfOk_add ok35 fun args s r s' h1 h2 h3 => ?_
  unfold s8 at h3; split at h3
  · rename_i h; exact callOk ok35 Try.func8 h1 h2 h (e8 _ _) rfl h3
  · exact ok35 _ _ _ _ _ h1 h2 h3
end Go.Proofs.Ytpeehlgiddbfpaa
