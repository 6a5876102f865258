/- What the functions that FnExactMeetSpans reaches answer. -/
import Derived.Test.YtpeehlgiddbfpaaF7
namespace Go.Proofs.Ytpeehlgiddbfpaa
open Go.Ab

/-- spec.MeetSpans -/
def r32 (x0 : Nat) (x1 : Nat) (x2 : Nat) (x3 : Nat) : Nat × Nat × Int :=
 cond (((r52 x0 x1 x2 x3) : Int) != 0)
  (0, 0, (r52 x0 x1 x2 x3))
  (cond (!(r45 (r60 x0 x2) (r61 x1 x3)))
   (0, 0, 6)
   ((r60 x0 x2), (r61 x1 x3), 0))
def s32 (args : List Value) (s : St) : Res :=
 match args, s.h with
 | [.agg ⟨[.float .f32 x0, .float .f32 x1]⟩, .agg ⟨[.float .f32 x2, .float .f32 x3]⟩], [] => some (.tuple #[.agg #[.float .f32 ((r32 x0 x1 x2 x3).1), .float .f32 ((r32 x0 x1 x2 x3).2.1)], .int .i64 ((r32 x0 x1 x2 x3).2.2)], st0)
 | _, _ => T46 32 args s
def a32 (x0 : Nat) (x1 : Nat) (x2 : Nat) (x3 : Nat) (p : Nat × Nat × Int) : Res := some (.tuple #[.agg #[.float .f32 (p.1), .float .f32 (p.2.1)], .int .i64 (p.2.2)], st0)
def t32 (x0 : Nat) (x1 : Nat) (x2 : Nat) (x3 : Nat) : Res :=
 (cond (((r52 x0 x1 x2 x3) : Int) != 0)
 (some (.tuple #[.agg #[.float .f32 0, .float .f32 0], .int .i64 (r52 x0 x1 x2 x3)], st0))
 (cond (!(r45 (r60 x0 x2) (r61 x1 x3)))
  (some (.tuple #[.agg #[.float .f32 0, .float .f32 0], .int .i64 6], st0))
  (some (.tuple #[.agg #[.float .f32 (r60 x0 x2), .float .f32 (r61 x1 x3)], .int .i64 0], st0))))
theorem e32 (x0 : Nat) (x1 : Nat) (x2 : Nat) (x3 : Nat) : evFn Try.prog ext T46 200 Try.f32 [.agg #[.float .f32 x0, .float .f32 x1], .agg #[.float .f32 x2, .float .f32 x3]] st0 = some (.tuple #[.agg #[.float .f32 ((r32 x0 x1 x2 x3).1), .float .f32 ((r32 x0 x1 x2 x3).2.1)], .int .i64 ((r32 x0 x1 x2 x3).2.2)], st0) :=
 (show evFn Try.prog ext T46 200 Try.f32 [.agg #[.float .f32 x0, .float .f32 x1], .agg #[.float .f32 x2, .float .f32 x3]] st0 = t32 x0 x1 x2 x3 from by kernel_rfl).trans
 ((show t32 x0 x1 x2 x3 = a32 x0 x1 x2 x3 (r32 x0 x1 x2 x3) from (cond_app (a32 x0 x1 x2 x3) _ rfl (cond_app (a32 x0 x1 x2 x3) _ rfl rfl))))
def T47 : CallF := addF T46 32 s32
theorem ok47 : CfOk Try.prog T47 := by
  refine cfOk_add ok46 fun args s r s' h1 h2 h3 => ?_
  unfold s32 at h3; split at h3
  · rename_i h; exact callOk ok46 Try.func32 h1 h2 h (e32 _ _ _ _) rfl h3
  · exact ok46 _ _ _ _ _ h1 h2 h3

/-- impl.MeetSpans -/
def r33 (x0 : Nat) (x1 : Nat) (x2 : Nat) (x3 : Nat) : Nat × Nat × Int :=
 cond (!((r62 x0 x1 x2 x3).1))
  (0, 0, 1)
  (cond (!(r17 (r63 x0 x2) (r64 x1 x3)))
   (0, 0, 6)
   ((r63 x0 x2), (r64 x1 x3), 0))
def s33 (args : List Value) (s : St) : Res :=
 match args, s.h with
 | [.agg ⟨[.float .f32 x0, .float .f32 x1]⟩, .agg ⟨[.float .f32 x2, .float .f32 x3]⟩], [] => some (.tuple #[.agg #[.float .f32 ((r33 x0 x1 x2 x3).1), .float .f32 ((r33 x0 x1 x2 x3).2.1)], .int .i64 ((r33 x0 x1 x2 x3).2.2)], st0)
 | _, _ => T47 33 args s
def a33 (x0 : Nat) (x1 : Nat) (x2 : Nat) (x3 : Nat) (p : Nat × Nat × Int) : Res := some (.tuple #[.agg #[.float .f32 (p.1), .float .f32 (p.2.1)], .int .i64 (p.2.2)], st0)
def t33 (x0 : Nat) (x1 : Nat) (x2 : Nat) (x3 : Nat) : Res :=
 (cond (!((r62 x0 x1 x2 x3).1))
 (some (.tuple #[.agg #[.float .f32 0, .float .f32 0], .int .i64 1], st0))
 (cond (!(r17 (r63 x0 x2) (r64 x1 x3)))
  (some (.tuple #[.agg #[.float .f32 0, .float .f32 0], .int .i64 6], st0))
  (some (.tuple #[.agg #[.float .f32 (r63 x0 x2), .float .f32 (r64 x1 x3)], .int .i64 0], st0))))
theorem e33 (x0 : Nat) (x1 : Nat) (x2 : Nat) (x3 : Nat) : evFn Try.prog ext T47 200 Try.f33 [.agg #[.float .f32 x0, .float .f32 x1], .agg #[.float .f32 x2, .float .f32 x3]] st0 = some (.tuple #[.agg #[.float .f32 ((r33 x0 x1 x2 x3).1), .float .f32 ((r33 x0 x1 x2 x3).2.1)], .int .i64 ((r33 x0 x1 x2 x3).2.2)], st0) :=
 (show evFn Try.prog ext T47 200 Try.f33 [.agg #[.float .f32 x0, .float .f32 x1], .agg #[.float .f32 x2, .float .f32 x3]] st0 = t33 x0 x1 x2 x3 from by kernel_rfl).trans
 ((show t33 x0 x1 x2 x3 = a33 x0 x1 x2 x3 (r33 x0 x1 x2 x3) from (cond_app (a33 x0 x1 x2 x3) _ rfl (cond_app (a33 x0 x1 x2 x3) _ rfl rfl))))
def T48 : CallF := addF T47 33 s33
theorem ok48 : CfOk Try.prog T48 := by
  refine cfOk_add ok47 fun args s r s' h1 h2 h3 => ?_
  unfold s33 at h3; split at h3
  · rename_i h; exact callOk ok47 Try.func33 h1 h2 h (e33 _ _ _ _) rfl h3
  · exact ok47 _ _ _ _ _ h1 h2 h3

/-- laws.FnExactMeetSpans -/
def r10 (x0 : Nat) (x1 : Nat) (x2 : Nat) (x3 : Nat) : Bool :=
 cond (!(r27 ((r33 ((r16 x0 x1).1) ((r16 x0 x1).2) ((r16 x2 x3).1) ((r16 x2 x3).2)).1) ((r33 ((r16 x0 x1).1) ((r16 x0 x1).2) ((r16 x2 x3).1) ((r16 x2 x3).2)).2.1) ((r32 ((r16 x0 x1).1) ((r16 x0 x1).2) ((r16 x2 x3).1) ((r16 x2 x3).2)).1) ((r32 ((r16 x0 x1).1) ((r16 x0 x1).2) ((r16 x2 x3).1) ((r16 x2 x3).2)).2.1)))
  (false)
  (cond ((((r33 ((r16 x0 x1).1) ((r16 x0 x1).2) ((r16 x2 x3).1) ((r16 x2 x3).2)).2.2) : Int) != ((r32 ((r16 x0 x1).1) ((r16 x0 x1).2) ((r16 x2 x3).1) ((r16 x2 x3).2)).2.2))
   (false)
   (true))
def s10 (args : List Value) (s : St) : Res :=
 match args, s.h with
 | [.agg ⟨[.float .f32 x0, .float .f32 x1]⟩, .agg ⟨[.float .f32 x2, .float .f32 x3]⟩], [] => some (.bool (r10 x0 x1 x2 x3), st0)
 | _, _ => T48 10 args s
def a10 (x0 : Nat) (x1 : Nat) (x2 : Nat) (x3 : Nat) (p : Bool) : Res := some (.bool p, st0)
def t10 (x0 : Nat) (x1 : Nat) (x2 : Nat) (x3 : Nat) : Res :=
 (cond (!(r27 ((r33 ((r16 x0 x1).1) ((r16 x0 x1).2) ((r16 x2 x3).1) ((r16 x2 x3).2)).1) ((r33 ((r16 x0 x1).1) ((r16 x0 x1).2) ((r16 x2 x3).1) ((r16 x2 x3).2)).2.1) ((r32 ((r16 x0 x1).1) ((r16 x0 x1).2) ((r16 x2 x3).1) ((r16 x2 x3).2)).1) ((r32 ((r16 x0 x1).1) ((r16 x0 x1).2) ((r16 x2 x3).1) ((r16 x2 x3).2)).2.1)))
 (some (.bool false, st0))
 (cond ((((r33 ((r16 x0 x1).1) ((r16 x0 x1).2) ((r16 x2 x3).1) ((r16 x2 x3).2)).2.2) : Int) != ((r32 ((r16 x0 x1).1) ((r16 x0 x1).2) ((r16 x2 x3).1) ((r16 x2 x3).2)).2.2))
  (some (.bool false, st0))
  (some (.bool true, st0))))
theorem e10 (x0 : Nat) (x1 : Nat) (x2 : Nat) (x3 : Nat) : evFn Try.prog ext T48 200 Try.f10 [.agg #[.float .f32 x0, .float .f32 x1], .agg #[.float .f32 x2, .float .f32 x3]] st0 = some (.bool (r10 x0 x1 x2 x3), st0) :=
 (show evFn Try.prog ext T48 200 Try.f10 [.agg #[.float .f32 x0, .float .f32 x1], .agg #[.float .f32 x2, .float .f32 x3]] st0 = t10 x0 x1 x2 x3 from by kernel_rfl).trans
 ((show t10 x0 x1 x2 x3 = a10 x0 x1 x2 x3 (r10 x0 x1 x2 x3) from (cond_app (a10 x0 x1 x2 x3) _ rfl (cond_app (a10 x0 x1 x2 x3) _ rfl rfl))))
def T49 : CallF := addF T48 10 s10
theorem ok49 : CfOk Try.prog T49 := by
  refine cfOk_add ok48 fun args s r s' h1 h2 h3 => ?_
  unfold s10 at h3; split at h3
  · rename_i h; exact callOk ok48 Try.func10 h1 h2 h (e10 _ _ _ _) rfl h3
  · exact ok48 _ _ _ _ _ h1 h2 h3
end Go.Proofs.Ytpeehlgiddbfpaa
