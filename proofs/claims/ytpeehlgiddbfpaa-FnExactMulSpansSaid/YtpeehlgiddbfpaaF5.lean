/- What the functions that FnExactLessSpans reaches answer. -/
import Derived.Test.YtpeehlgiddbfpaaF4
namespace Go.Proofs.Ytpeehlgiddbfpaa
open Go.Ab

/-- spec.l05Two -/
def r52 (x0 : Nat) (x1 : Nat) (x2 : Nat) (x3 : Nat) : Int :=
 cond (!(r45 x0 x1))
  (1)
  (cond (!(r45 x2 x3))
   (1)
   (0))
def s52 (args : List Value) (s : St) : Res :=
 match args, s.h with
 | [.agg ⟨[.float .f32 x0, .float .f32 x1]⟩, .agg ⟨[.float .f32 x2, .float .f32 x3]⟩], [] => some (.int .i64 (r52 x0 x1 x2 x3), st0)
 | _, _ => T20 52 args s
def a52 (x0 : Nat) (x1 : Nat) (x2 : Nat) (x3 : Nat) (p : Int) : Res := some (.int .i64 p, st0)
def t52 (x0 : Nat) (x1 : Nat) (x2 : Nat) (x3 : Nat) : Res :=
 (cond (!(r45 x0 x1))
 (some (.int .i64 1, st0))
 (cond (!(r45 x2 x3))
  (some (.int .i64 1, st0))
  (some (.int .i64 0, st0))))
theorem e52 (x0 : Nat) (x1 : Nat) (x2 : Nat) (x3 : Nat) : evFn Try.prog ext T20 200 Try.f52 [.agg #[.float .f32 x0, .float .f32 x1], .agg #[.float .f32 x2, .float .f32 x3]] st0 = some (.int .i64 (r52 x0 x1 x2 x3), st0) :=
 (show evFn Try.prog ext T20 200 Try.f52 [.agg #[.float .f32 x0, .float .f32 x1], .agg #[.float .f32 x2, .float .f32 x3]] st0 = t52 x0 x1 x2 x3 from by kernel_rfl).trans
 ((show t52 x0 x1 x2 x3 = a52 x0 x1 x2 x3 (r52 x0 x1 x2 x3) from (cond_app (a52 x0 x1 x2 x3) _ rfl (cond_app (a52 x0 x1 x2 x3) _ rfl rfl))))
def T21 : CallF := addF T20 52 s52
theorem ok21 : CfOk Try.prog T21 := by
  refine cfOk_add ok20 fun args s r s' h1 h2 h3 => ?_
  unfold s52 at h3; split at h3
  · rename_i h; exact callOk ok20 Try.func52 h1 h2 h (e52 _ _ _ _) rfl h3
  · exact ok20 _ _ _ _ _ h1 h2 h3

/-- spec.l05Less -/
def r53 (x0 : Nat) (x1 : Nat) (x2 : Nat) (x3 : Nat) : Nat × Nat :=
 cond (flt .f32 x1 x2)
  (1065353216, 1065353216)
  (cond (fgt .f32 x0 x3 || feq .f32 x0 x3)
   (0, 0)
   (0, 1065353216))
def s53 (args : List Value) (s : St) : Res :=
 match args, s.h with
 | [.agg ⟨[.float .f32 x0, .float .f32 x1]⟩, .agg ⟨[.float .f32 x2, .float .f32 x3]⟩], [] => some (.agg #[.float .f32 ((r53 x0 x1 x2 x3).1), .float .f32 ((r53 x0 x1 x2 x3).2)], st0)
 | _, _ => T21 53 args s
def a53 (x0 : Nat) (x1 : Nat) (x2 : Nat) (x3 : Nat) (p : Nat × Nat) : Res := some (.agg #[.float .f32 (p.1), .float .f32 (p.2)], st0)
def t53 (x0 : Nat) (x1 : Nat) (x2 : Nat) (x3 : Nat) : Res :=
 (cond (flt .f32 x1 x2)
 (some (.agg #[.float .f32 1065353216, .float .f32 1065353216], st0))
 (cond (fgt .f32 x0 x3 || feq .f32 x0 x3)
  (some (.agg #[.float .f32 0, .float .f32 0], st0))
  (some (.agg #[.float .f32 0, .float .f32 1065353216], st0))))
theorem e53 (x0 : Nat) (x1 : Nat) (x2 : Nat) (x3 : Nat) : evFn Try.prog ext T21 200 Try.f53 [.agg #[.float .f32 x0, .float .f32 x1], .agg #[.float .f32 x2, .float .f32 x3]] st0 = some (.agg #[.float .f32 ((r53 x0 x1 x2 x3).1), .float .f32 ((r53 x0 x1 x2 x3).2)], st0) :=
 (show evFn Try.prog ext T21 200 Try.f53 [.agg #[.float .f32 x0, .float .f32 x1], .agg #[.float .f32 x2, .float .f32 x3]] st0 = t53 x0 x1 x2 x3 from by kernel_rfl).trans
 ((show t53 x0 x1 x2 x3 = a53 x0 x1 x2 x3 (r53 x0 x1 x2 x3) from (cond_app (a53 x0 x1 x2 x3) _ rfl (cond_app (a53 x0 x1 x2 x3) _ rfl rfl))))
def T22 : CallF := addF T21 53 s53
theorem ok22 : CfOk Try.prog T22 := by
  refine cfOk_add ok21 fun args s r s' h1 h2 h3 => ?_
  unfold s53 at h3; split at h3
  · rename_i h; exact callOk ok21 Try.func53 h1 h2 h (e53 _ _ _ _) rfl h3
  · exact ok21 _ _ _ _ _ h1 h2 h3

/-- spec.LessSpans -/
def r25 (x0 : Nat) (x1 : Nat) (x2 : Nat) (x3 : Nat) : Nat × Nat × Int :=
 cond (((r52 x0 x1 x2 x3) : Int) != 0)
  (0, 0, (r52 x0 x1 x2 x3))
  (((r53 x0 x1 x2 x3).1), ((r53 x0 x1 x2 x3).2), 0)
def s25 (args : List Value) (s : St) : Res :=
 match args, s.h with
 | [.agg ⟨[.float .f32 x0, .float .f32 x1]⟩, .agg ⟨[.float .f32 x2, .float .f32 x3]⟩], [] => some (.tuple #[.agg #[.float .f32 ((r25 x0 x1 x2 x3).1), .float .f32 ((r25 x0 x1 x2 x3).2.1)], .int .i64 ((r25 x0 x1 x2 x3).2.2)], st0)
 | _, _ => T22 25 args s
def a25 (x0 : Nat) (x1 : Nat) (x2 : Nat) (x3 : Nat) (p : Nat × Nat × Int) : Res := some (.tuple #[.agg #[.float .f32 (p.1), .float .f32 (p.2.1)], .int .i64 (p.2.2)], st0)
def t25 (x0 : Nat) (x1 : Nat) (x2 : Nat) (x3 : Nat) : Res :=
 (cond (((r52 x0 x1 x2 x3) : Int) != 0)
 (some (.tuple #[.agg #[.float .f32 0, .float .f32 0], .int .i64 (r52 x0 x1 x2 x3)], st0))
 (some (.tuple #[.agg #[.float .f32 ((r53 x0 x1 x2 x3).1), .float .f32 ((r53 x0 x1 x2 x3).2)], .int .i64 0], st0)))
theorem e25 (x0 : Nat) (x1 : Nat) (x2 : Nat) (x3 : Nat) : evFn Try.prog ext T22 200 Try.f25 [.agg #[.float .f32 x0, .float .f32 x1], .agg #[.float .f32 x2, .float .f32 x3]] st0 = some (.tuple #[.agg #[.float .f32 ((r25 x0 x1 x2 x3).1), .float .f32 ((r25 x0 x1 x2 x3).2.1)], .int .i64 ((r25 x0 x1 x2 x3).2.2)], st0) :=
 (show evFn Try.prog ext T22 200 Try.f25 [.agg #[.float .f32 x0, .float .f32 x1], .agg #[.float .f32 x2, .float .f32 x3]] st0 = t25 x0 x1 x2 x3 from by kernel_rfl).trans
 ((show t25 x0 x1 x2 x3 = a25 x0 x1 x2 x3 (r25 x0 x1 x2 x3) from (cond_app (a25 x0 x1 x2 x3) _ rfl rfl)))
def T23 : CallF := addF T22 25 s25
theorem ok23 : CfOk Try.prog T23 := by
  refine cfOk_add ok22 fun args s r s' h1 h2 h3 => ?_
  unfold s25 at h3; split at h3
  · rename_i h; exact callOk ok22 Try.func25 h1 h2 h (e25 _ _ _ _) rfl h3
  · exact ok22 _ _ _ _ _ h1 h2 h3

/-- impl.areSpans -/
def r62 (x0 : Nat) (x1 : Nat) (x2 : Nat) (x3 : Nat) : Bool × Nat × Nat × Nat × Nat :=
 cond (!(r17 x0 x1))
  (false, x0, x1, x2, x3)
  (cond (!(r17 x2 x3))
   (false, x0, x1, x2, x3)
   (true, x0, x1, x2, x3))
def s62 (args : List Value) (s : St) : Res :=
 match args, s.h with
 | [.slice (some ⟨b0, o0, some s0⟩) l0 c0], [⟨true, some (.tab [.fl .f32, .fl .f32] [[.ofNat x0, .ofNat x1], [.ofNat x2, .ofNat x3]])⟩] => if b0 = 0 ∧ o0 = 0 ∧ s0 = 0 ∧ l0 = 2 ∧ c0 = 2 then some (.bool ((r62 x0 x1 x2 x3).1), ⟨[⟨true, (some (.tab [.fl .f32, .fl .f32] [[((((r62 x0 x1 x2 x3).2.1) : Nat) : Int), ((((r62 x0 x1 x2 x3).2.2.1) : Nat) : Int)], [((((r62 x0 x1 x2 x3).2.2.2.1) : Nat) : Int), ((((r62 x0 x1 x2 x3).2.2.2.2) : Nat) : Int)]]))⟩], 1, false⟩) else T23 62 args s
 | _, _ => T23 62 args s
def a62 (x0 : Nat) (x1 : Nat) (x2 : Nat) (x3 : Nat) (p : Bool × Nat × Nat × Nat × Nat) : Res := some (.bool (p.1), ⟨[⟨true, (some (.tab [.fl .f32, .fl .f32] [[(((p.2.1) : Nat) : Int), (((p.2.2.1) : Nat) : Int)], [(((p.2.2.2.1) : Nat) : Int), (((p.2.2.2.2) : Nat) : Int)]]))⟩], 1, false⟩)
def t62 (x0 : Nat) (x1 : Nat) (x2 : Nat) (x3 : Nat) : Res :=
 (cond (!(r17 x0 x1))
 (some (.bool false, ⟨[⟨true, (some (.tab [.fl .f32, .fl .f32] [[((x0 : Nat) : Int), ((x1 : Nat) : Int)], [((x2 : Nat) : Int), ((x3 : Nat) : Int)]]))⟩], 1, false⟩))
 (cond (!(r17 x2 x3))
  (some (.bool false, ⟨[⟨true, (some (.tab [.fl .f32, .fl .f32] [[((x0 : Nat) : Int), ((x1 : Nat) : Int)], [((x2 : Nat) : Int), ((x3 : Nat) : Int)]]))⟩], 1, false⟩))
  (some (.bool true, ⟨[⟨true, (some (.tab [.fl .f32, .fl .f32] [[((x0 : Nat) : Int), ((x1 : Nat) : Int)], [((x2 : Nat) : Int), ((x3 : Nat) : Int)]]))⟩], 1, false⟩))))
theorem e62 (x0 : Nat) (x1 : Nat) (x2 : Nat) (x3 : Nat) : evFn Try.prog ext T23 200 Try.f62 [.slice (some ⟨0, 0, some 0⟩) 2 2] ⟨[⟨true, (some (.tab [.fl .f32, .fl .f32] [[((x0 : Nat) : Int), ((x1 : Nat) : Int)], [((x2 : Nat) : Int), ((x3 : Nat) : Int)]]))⟩], 1, false⟩ = some (.bool ((r62 x0 x1 x2 x3).1), ⟨[⟨true, (some (.tab [.fl .f32, .fl .f32] [[((((r62 x0 x1 x2 x3).2.1) : Nat) : Int), ((((r62 x0 x1 x2 x3).2.2.1) : Nat) : Int)], [((((r62 x0 x1 x2 x3).2.2.2.1) : Nat) : Int), ((((r62 x0 x1 x2 x3).2.2.2.2) : Nat) : Int)]]))⟩], 1, false⟩) :=
 (show evFn Try.prog ext T23 200 Try.f62 [.slice (some ⟨0, 0, some 0⟩) 2 2] ⟨[⟨true, (some (.tab [.fl .f32, .fl .f32] [[((x0 : Nat) : Int), ((x1 : Nat) : Int)], [((x2 : Nat) : Int), ((x3 : Nat) : Int)]]))⟩], 1, false⟩ = t62 x0 x1 x2 x3 from by kernel_rfl).trans
 ((show t62 x0 x1 x2 x3 = a62 x0 x1 x2 x3 (r62 x0 x1 x2 x3) from (cond_app (a62 x0 x1 x2 x3) _ rfl (cond_app (a62 x0 x1 x2 x3) _ rfl rfl))))
def T24 : CallF := addF T23 62 s62
theorem ok24 : CfOk Try.prog T24 := by
  refine cfOk_add ok23 fun args s r s' h1 h2 h3 => ?_
  unfold s62 at h3; split at h3
  · rename_i h; split at h3
    · rename_i hc; obtain ⟨rfl, rfl, rfl, rfl, rfl⟩ := hc; exact callOk ok23 Try.func62 h1 h2 h (e62 _ _ _ _) rfl h3
    · exact ok23 _ _ _ _ _ h1 h2 h3
  · exact ok23 _ _ _ _ _ h1 h2 h3

/-- impl.lessSpans -/
def r55 (x0 : Nat) (x1 : Nat) (x2 : Nat) (x3 : Nat) : Nat × Nat :=
 cond (flt .f32 x1 x2)
  (1065353216, 1065353216)
  (cond (fgt .f32 x0 x3 || feq .f32 x0 x3)
   (0, 0)
   (0, 1065353216))
def s55 (args : List Value) (s : St) : Res :=
 match args, s.h with
 | [.agg ⟨[.float .f32 x0, .float .f32 x1]⟩, .agg ⟨[.float .f32 x2, .float .f32 x3]⟩], [] => some (.agg #[.float .f32 ((r55 x0 x1 x2 x3).1), .float .f32 ((r55 x0 x1 x2 x3).2)], st0)
 | _, _ => T24 55 args s
def a55 (x0 : Nat) (x1 : Nat) (x2 : Nat) (x3 : Nat) (p : Nat × Nat) : Res := some (.agg #[.float .f32 (p.1), .float .f32 (p.2)], st0)
def t55 (x0 : Nat) (x1 : Nat) (x2 : Nat) (x3 : Nat) : Res :=
 (cond (flt .f32 x1 x2)
 (some (.agg #[.float .f32 1065353216, .float .f32 1065353216], st0))
 (cond (fgt .f32 x0 x3 || feq .f32 x0 x3)
  (some (.agg #[.float .f32 0, .float .f32 0], st0))
  (some (.agg #[.float .f32 0, .float .f32 1065353216], st0))))
theorem e55 (x0 : Nat) (x1 : Nat) (x2 : Nat) (x3 : Nat) : evFn Try.prog ext T24 200 Try.f55 [.agg #[.float .f32 x0, .float .f32 x1], .agg #[.float .f32 x2, .float .f32 x3]] st0 = some (.agg #[.float .f32 ((r55 x0 x1 x2 x3).1), .float .f32 ((r55 x0 x1 x2 x3).2)], st0) :=
 (show evFn Try.prog ext T24 200 Try.f55 [.agg #[.float .f32 x0, .float .f32 x1], .agg #[.float .f32 x2, .float .f32 x3]] st0 = t55 x0 x1 x2 x3 from by kernel_rfl).trans
 ((show t55 x0 x1 x2 x3 = a55 x0 x1 x2 x3 (r55 x0 x1 x2 x3) from (cond_app (a55 x0 x1 x2 x3) _ rfl (cond_app (a55 x0 x1 x2 x3) _ rfl rfl))))
def T25 : CallF := addF T24 55 s55
theorem ok25 : CfOk Try.prog T25 := by
  refine cfOk_add ok24 fun args s r s' h1 h2 h3 => ?_
  unfold s55 at h3; split at h3
  · rename_i h; exact callOk ok24 Try.func55 h1 h2 h (e55 _ _ _ _) rfl h3
  · exact ok24 _ _ _ _ _ h1 h2 h3

/-- impl.onSpans -/
def r54 (x0 : Nat) (x1 : Nat) (x2 : Nat) (x3 : Nat) : Nat × Nat × Int :=
 cond (!((r62 x0 x1 x2 x3).1))
  (0, 0, 1)
  (((r55 x0 x1 x2 x3).1), ((r55 x0 x1 x2 x3).2), 0)
def s54 (args : List Value) (s : St) : Res :=
 match args, s.h with
 | [.agg ⟨[.float .f32 x0, .float .f32 x1]⟩, .agg ⟨[.float .f32 x2, .float .f32 x3]⟩, .func (.func f0) ⟨[]⟩ ⟨[]⟩], [] => if f0 = 55 then some (.tuple #[.agg #[.float .f32 ((r54 x0 x1 x2 x3).1), .float .f32 ((r54 x0 x1 x2 x3).2.1)], .int .i64 ((r54 x0 x1 x2 x3).2.2)], st0) else T25 54 args s
 | _, _ => T25 54 args s
def a54 (x0 : Nat) (x1 : Nat) (x2 : Nat) (x3 : Nat) (p : Nat × Nat × Int) : Res := some (.tuple #[.agg #[.float .f32 (p.1), .float .f32 (p.2.1)], .int .i64 (p.2.2)], st0)
def t54 (x0 : Nat) (x1 : Nat) (x2 : Nat) (x3 : Nat) : Res :=
 (cond (!((r62 x0 x1 x2 x3).1))
 (some (.tuple #[.agg #[.float .f32 0, .float .f32 0], .int .i64 1], st0))
 (some (.tuple #[.agg #[.float .f32 ((r55 x0 x1 x2 x3).1), .float .f32 ((r55 x0 x1 x2 x3).2)], .int .i64 0], st0)))
theorem e54 (x0 : Nat) (x1 : Nat) (x2 : Nat) (x3 : Nat) : evFn Try.prog ext T25 200 Try.f54 [.agg #[.float .f32 x0, .float .f32 x1], .agg #[.float .f32 x2, .float .f32 x3], .func (.func 55) #[] #[]] st0 = some (.tuple #[.agg #[.float .f32 ((r54 x0 x1 x2 x3).1), .float .f32 ((r54 x0 x1 x2 x3).2.1)], .int .i64 ((r54 x0 x1 x2 x3).2.2)], st0) :=
 (show evFn Try.prog ext T25 200 Try.f54 [.agg #[.float .f32 x0, .float .f32 x1], .agg #[.float .f32 x2, .float .f32 x3], .func (.func 55) #[] #[]] st0 = t54 x0 x1 x2 x3 from by kernel_rfl).trans
 ((show t54 x0 x1 x2 x3 = a54 x0 x1 x2 x3 (r54 x0 x1 x2 x3) from (cond_app (a54 x0 x1 x2 x3) _ rfl rfl)))
def T26 : CallF := addF T25 54 s54
theorem ok26 : CfOk Try.prog T26 := by
  refine cfOk_add ok25 fun args s r s' h1 h2 h3 => ?_
  unfold s54 at h3; split at h3
  · rename_i h; split at h3
    · rename_i hc; obtain ⟨rfl⟩ := hc; exact callOk ok25 Try.func54 h1 h2 h (e54 _ _ _ _) rfl h3
    · exact ok25 _ _ _ _ _ h1 h2 h3
  · exact ok25 _ _ _ _ _ h1 h2 h3

/-- impl.LessSpans -/
def r26 (x0 : Nat) (x1 : Nat) (x2 : Nat) (x3 : Nat) : Nat × Nat × Int :=
 (((r54 x0 x1 x2 x3).1), ((r54 x0 x1 x2 x3).2.1), ((r54 x0 x1 x2 x3).2.2))
def s26 (args : List Value) (s : St) : Res :=
 match args, s.h with
 | [.agg ⟨[.float .f32 x0, .float .f32 x1]⟩, .agg ⟨[.float .f32 x2, .float .f32 x3]⟩], [] => some (.tuple #[.agg #[.float .f32 ((r26 x0 x1 x2 x3).1), .float .f32 ((r26 x0 x1 x2 x3).2.1)], .int .i64 ((r26 x0 x1 x2 x3).2.2)], st0)
 | _, _ => T26 26 args s
def a26 (x0 : Nat) (x1 : Nat) (x2 : Nat) (x3 : Nat) (p : Nat × Nat × Int) : Res := some (.tuple #[.agg #[.float .f32 (p.1), .float .f32 (p.2.1)], .int .i64 (p.2.2)], st0)
def t26 (x0 : Nat) (x1 : Nat) (x2 : Nat) (x3 : Nat) : Res :=
 (some (.tuple #[.agg #[.float .f32 ((r54 x0 x1 x2 x3).1), .float .f32 ((r54 x0 x1 x2 x3).2.1)], .int .i64 ((r54 x0 x1 x2 x3).2.2)], st0))
theorem e26 (x0 : Nat) (x1 : Nat) (x2 : Nat) (x3 : Nat) : evFn Try.prog ext T26 200 Try.f26 [.agg #[.float .f32 x0, .float .f32 x1], .agg #[.float .f32 x2, .float .f32 x3]] st0 = some (.tuple #[.agg #[.float .f32 ((r26 x0 x1 x2 x3).1), .float .f32 ((r26 x0 x1 x2 x3).2.1)], .int .i64 ((r26 x0 x1 x2 x3).2.2)], st0) :=
 (show evFn Try.prog ext T26 200 Try.f26 [.agg #[.float .f32 x0, .float .f32 x1], .agg #[.float .f32 x2, .float .f32 x3]] st0 = t26 x0 x1 x2 x3 from by kernel_rfl).trans
 ((show t26 x0 x1 x2 x3 = a26 x0 x1 x2 x3 (r26 x0 x1 x2 x3) from rfl))
def T27 : CallF := addF T26 26 s26
theorem ok27 : CfOk Try.prog T27 := by
  refine cfOk_add ok26 fun args s r s' h1 h2 h3 => ?_
  unfold s26 at h3; split at h3
  · rename_i h; exact callOk ok26 Try.func26 h1 h2 h (e26 _ _ _ _) rfl h3
  · exact ok26 _ _ _ _ _ h1 h2 h3

/-- laws.eqSpan -/
def r27 (x0 : Nat) (x1 : Nat) (x2 : Nat) (x3 : Nat) : Bool :=
 cond (!(r22 (widen x0) (widen x2)))
  (false)
  (cond (!(r22 (widen x1) (widen x3)))
   (false)
   (true))
def s27 (args : List Value) (s : St) : Res :=
 match args, s.h with
 | [.agg ⟨[.float .f32 x0, .float .f32 x1]⟩, .agg ⟨[.float .f32 x2, .float .f32 x3]⟩], [] => some (.bool (r27 x0 x1 x2 x3), st0)
 | _, _ => T27 27 args s
def a27 (x0 : Nat) (x1 : Nat) (x2 : Nat) (x3 : Nat) (p : Bool) : Res := some (.bool p, st0)
def t27 (x0 : Nat) (x1 : Nat) (x2 : Nat) (x3 : Nat) : Res :=
 (cond (!(r22 (widen x0) (widen x2)))
 (some (.bool false, st0))
 (cond (!(r22 (widen x1) (widen x3)))
  (some (.bool false, st0))
  (some (.bool true, st0))))
theorem e27 (x0 : Nat) (x1 : Nat) (x2 : Nat) (x3 : Nat) : evFn Try.prog ext T27 200 Try.f27 [.agg #[.float .f32 x0, .float .f32 x1], .agg #[.float .f32 x2, .float .f32 x3]] st0 = some (.bool (r27 x0 x1 x2 x3), st0) :=
 (show evFn Try.prog ext T27 200 Try.f27 [.agg #[.float .f32 x0, .float .f32 x1], .agg #[.float .f32 x2, .float .f32 x3]] st0 = t27 x0 x1 x2 x3 from by kernel_rfl).trans
 ((show t27 x0 x1 x2 x3 = a27 x0 x1 x2 x3 (r27 x0 x1 x2 x3) from (cond_app (a27 x0 x1 x2 x3) _ rfl (cond_app (a27 x0 x1 x2 x3) _ rfl rfl))))
def T28 : CallF := addF T27 27 s27
theorem ok28 : CfOk Try.prog T28 := by
  refine cfOk_add ok27 fun args s r s' h1 h2 h3 => ?_
  unfold s27 at h3; split at h3
  · rename_i h; exact callOk ok27 Try.func27 h1 h2 h (e27 _ _ _ _) rfl h3
  · exact ok27 _ _ _ _ _ h1 h2 h3

/-- laws.FnExactLessSpans -/
def r7 (x0 : Nat) (x1 : Nat) (x2 : Nat) (x3 : Nat) : Bool :=
 cond (!(r27 ((r26 ((r16 x0 x1).1) ((r16 x0 x1).2) ((r16 x2 x3).1) ((r16 x2 x3).2)).1) ((r26 ((r16 x0 x1).1) ((r16 x0 x1).2) ((r16 x2 x3).1) ((r16 x2 x3).2)).2.1) ((r25 ((r16 x0 x1).1) ((r16 x0 x1).2) ((r16 x2 x3).1) ((r16 x2 x3).2)).1) ((r25 ((r16 x0 x1).1) ((r16 x0 x1).2) ((r16 x2 x3).1) ((r16 x2 x3).2)).2.1)))
  (false)
  (cond ((((r26 ((r16 x0 x1).1) ((r16 x0 x1).2) ((r16 x2 x3).1) ((r16 x2 x3).2)).2.2) : Int) != ((r25 ((r16 x0 x1).1) ((r16 x0 x1).2) ((r16 x2 x3).1) ((r16 x2 x3).2)).2.2))
   (false)
   (true))
def s7 (args : List Value) (s : St) : Res :=
 match args, s.h with
 | [.agg ⟨[.float .f32 x0, .float .f32 x1]⟩, .agg ⟨[.float .f32 x2, .float .f32 x3]⟩], [] => some (.bool (r7 x0 x1 x2 x3), st0)
 | _, _ => T28 7 args s
def a7 (x0 : Nat) (x1 : Nat) (x2 : Nat) (x3 : Nat) (p : Bool) : Res := some (.bool p, st0)
def t7 (x0 : Nat) (x1 : Nat) (x2 : Nat) (x3 : Nat) : Res :=
 (cond (!(r27 ((r26 ((r16 x0 x1).1) ((r16 x0 x1).2) ((r16 x2 x3).1) ((r16 x2 x3).2)).1) ((r26 ((r16 x0 x1).1) ((r16 x0 x1).2) ((r16 x2 x3).1) ((r16 x2 x3).2)).2.1) ((r25 ((r16 x0 x1).1) ((r16 x0 x1).2) ((r16 x2 x3).1) ((r16 x2 x3).2)).1) ((r25 ((r16 x0 x1).1) ((r16 x0 x1).2) ((r16 x2 x3).1) ((r16 x2 x3).2)).2.1)))
 (some (.bool false, st0))
 (cond ((((r26 ((r16 x0 x1).1) ((r16 x0 x1).2) ((r16 x2 x3).1) ((r16 x2 x3).2)).2.2) : Int) != ((r25 ((r16 x0 x1).1) ((r16 x0 x1).2) ((r16 x2 x3).1) ((r16 x2 x3).2)).2.2))
  (some (.bool false, st0))
  (some (.bool true, st0))))
theorem e7 (x0 : Nat) (x1 : Nat) (x2 : Nat) (x3 : Nat) : evFn Try.prog ext T28 200 Try.f7 [.agg #[.float .f32 x0, .float .f32 x1], .agg #[.float .f32 x2, .float .f32 x3]] st0 = some (.bool (r7 x0 x1 x2 x3), st0) :=
 (show evFn Try.prog ext T28 200 Try.f7 [.agg #[.float .f32 x0, .float .f32 x1], .agg #[.float .f32 x2, .float .f32 x3]] st0 = t7 x0 x1 x2 x3 from by kernel_rfl).trans
 ((show t7 x0 x1 x2 x3 = a7 x0 x1 x2 x3 (r7 x0 x1 x2 x3) from (cond_app (a7 x0 x1 x2 x3) _ rfl (cond_app (a7 x0 x1 x2 x3) _ rfl rfl))))
def T29 : CallF := addF T28 7 s7
theorem ok29 : CfOk Try.prog T29 := by
  refine cfOk_add ok28 fun args s r s' h1 h2 h3 => ?_
  unfold s7 at h3; split at h3
  · rename_i h; exact callOk ok28 Try.func7 h1 h2 h (e7 _ _ _ _) rfl h3
  · exact ok28 _ _ _ _ _ h1 h2 h3
end Go.Proofs.Ytpeehlgiddbfpaa
