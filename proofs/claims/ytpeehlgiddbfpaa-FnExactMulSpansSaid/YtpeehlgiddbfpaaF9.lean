/- What the functions that FnExactAddSpans reaches answer. -/
import Derived.Test.YtpeehlgiddbfpaaF8
namespace Go.Proofs.Ytpeehlgiddbfpaa
open Go.Ab

/-- math.Inf -/
def r80 : Unit :=
 ()
def s80 (args : List Value) (s : St) : Res :=
 match args, s.h with
 | [.int .i64 f0], [] => if f0 = (-1) then some (.float .f64 18442240474082181120, st0) else T49 80 args s
 | _, _ => T49 80 args s
def a80 (p : Unit) : Res := some (.float .f64 18442240474082181120, st0)
def t80 : Res :=
 (some (.float .f64 18442240474082181120, st0))
theorem e80 : evFn Try.prog ext T49 200 Try.f80 [.int .i64 (-1)] st0 = some (.float .f64 18442240474082181120, st0) :=
 (show evFn Try.prog ext T49 200 Try.f80 [.int .i64 (-1)] st0 = t80 from by kernel_rfl).trans
 ((show t80 = a80 r80 from rfl))
def T50 : CallF := addF T49 80 s80
theorem ok50 : CfOk Try.prog T50 := by
  refine cfOk_add ok49 fun args s r s' h1 h2 h3 => ?_
  unfold s80 at h3; split at h3
  · rename_i h; split at h3
    · rename_i hc; obtain ⟨rfl⟩ := hc; exact callOk ok49 Try.func80 h1 h2 h (e80) rfl h3
    · exact ok49 _ _ _ _ _ h1 h2 h3
  · exact ok49 _ _ _ _ _ h1 h2 h3

/-- spec.l05Low -/
def r76 (x0 : Nat) : Nat :=
 cond (!feq .f32 x0 x0)
  (4286578688)
  ((r51 x0))
def s76 (args : List Value) (s : St) : Res :=
 match args, s.h with
 | [.float .f32 x0], [] => some (.float .f32 (r76 x0), st0)
 | _, _ => T50 76 args s
def a76 (x0 : Nat) (p : Nat) : Res := some (.float .f32 p, st0)
def t76 (x0 : Nat) : Res :=
 (cond (!feq .f32 x0 x0)
 (some (.float .f32 4286578688, st0))
 (some (.float .f32 (r51 x0), st0)))
theorem e76 (x0 : Nat) : evFn Try.prog ext T50 200 Try.f76 [.float .f32 x0] st0 = some (.float .f32 (r76 x0), st0) :=
 (show evFn Try.prog ext T50 200 Try.f76 [.float .f32 x0] st0 = t76 x0 from by kernel_rfl).trans
 ((show t76 x0 = a76 x0 (r76 x0) from (cond_app (a76 x0) _ rfl rfl)))
def T51 : CallF := addF T50 76 s76
theorem ok51 : CfOk Try.prog T51 := by
  refine cfOk_add ok50 fun args s r s' h1 h2 h3 => ?_
  unfold s76 at h3; split at h3
  · rename_i h; exact callOk ok50 Try.func76 h1 h2 h (e76 _) rfl h3
  · exact ok50 _ _ _ _ _ h1 h2 h3

/-- math.Inf -/
def r80b : Unit :=
 ()
def s80b (args : List Value) (s : St) : Res :=
 match args, s.h with
 | [.int .i64 f0], [] => if f0 = 1 then some (.float .f64 9218868437227405312, st0) else T51 80 args s
 | _, _ => T51 80 args s
def a80b (p : Unit) : Res := some (.float .f64 9218868437227405312, st0)
def t80b : Res :=
 (some (.float .f64 9218868437227405312, st0))
theorem e80b : evFn Try.prog ext T51 200 Try.f80 [.int .i64 1] st0 = some (.float .f64 9218868437227405312, st0) :=
 (show evFn Try.prog ext T51 200 Try.f80 [.int .i64 1] st0 = t80b from by kernel_rfl).trans
 ((show t80b = a80b r80b from rfl))
def T52 : CallF := addF T51 80 s80b
theorem ok52 : CfOk Try.prog T52 := by
  refine cfOk_add ok51 fun args s r s' h1 h2 h3 => ?_
  unfold s80b at h3; split at h3
  · rename_i h; split at h3
    · rename_i hc; obtain ⟨rfl⟩ := hc; exact callOk ok51 Try.func80 h1 h2 h (e80b) rfl h3
    · exact ok51 _ _ _ _ _ h1 h2 h3
  · exact ok51 _ _ _ _ _ h1 h2 h3

/-- spec.l05High -/
def r77 (x0 : Nat) : Nat :=
 cond (!feq .f32 x0 x0)
  (2139095040)
  ((r47 x0))
def s77 (args : List Value) (s : St) : Res :=
 match args, s.h with
 | [.float .f32 x0], [] => some (.float .f32 (r77 x0), st0)
 | _, _ => T52 77 args s
def a77 (x0 : Nat) (p : Nat) : Res := some (.float .f32 p, st0)
def t77 (x0 : Nat) : Res :=
 (cond (!feq .f32 x0 x0)
 (some (.float .f32 2139095040, st0))
 (some (.float .f32 (r47 x0), st0)))
theorem e77 (x0 : Nat) : evFn Try.prog ext T52 200 Try.f77 [.float .f32 x0] st0 = some (.float .f32 (r77 x0), st0) :=
 (show evFn Try.prog ext T52 200 Try.f77 [.float .f32 x0] st0 = t77 x0 from by kernel_rfl).trans
 ((show t77 x0 = a77 x0 (r77 x0) from (cond_app (a77 x0) _ rfl rfl)))
def T53 : CallF := addF T52 77 s77
theorem ok53 : CfOk Try.prog T53 := by
  refine cfOk_add ok52 fun args s r s' h1 h2 h3 => ?_
  unfold s77 at h3; split at h3
  · rename_i h; exact callOk ok52 Try.func77 h1 h2 h (e77 _) rfl h3
  · exact ok52 _ _ _ _ _ h1 h2 h3

/-- spec.l05Add -/
def r65 (x0 : Nat) (x1 : Nat) (x2 : Nat) (x3 : Nat) : Nat × Nat :=
 ((r76 (fadd .f32 x0 x2)), (r77 (fadd .f32 x1 x3)))
def s65 (args : List Value) (s : St) : Res :=
 match args, s.h with
 | [.agg ⟨[.float .f32 x0, .float .f32 x1]⟩, .agg ⟨[.float .f32 x2, .float .f32 x3]⟩], [] => some (.agg #[.float .f32 ((r65 x0 x1 x2 x3).1), .float .f32 ((r65 x0 x1 x2 x3).2)], st0)
 | _, _ => T53 65 args s
def a65 (x0 : Nat) (x1 : Nat) (x2 : Nat) (x3 : Nat) (p : Nat × Nat) : Res := some (.agg #[.float .f32 (p.1), .float .f32 (p.2)], st0)
def t65 (x0 : Nat) (x1 : Nat) (x2 : Nat) (x3 : Nat) : Res :=
 (some (.agg #[.float .f32 (r76 (fadd .f32 x0 x2)), .float .f32 (r77 (fadd .f32 x1 x3))], st0))
theorem e65 (x0 : Nat) (x1 : Nat) (x2 : Nat) (x3 : Nat) : evFn Try.prog ext T53 200 Try.f65 [.agg #[.float .f32 x0, .float .f32 x1], .agg #[.float .f32 x2, .float .f32 x3]] st0 = some (.agg #[.float .f32 ((r65 x0 x1 x2 x3).1), .float .f32 ((r65 x0 x1 x2 x3).2)], st0) :=
 (show evFn Try.prog ext T53 200 Try.f65 [.agg #[.float .f32 x0, .float .f32 x1], .agg #[.float .f32 x2, .float .f32 x3]] st0 = t65 x0 x1 x2 x3 from by kernel_rfl).trans
 ((show t65 x0 x1 x2 x3 = a65 x0 x1 x2 x3 (r65 x0 x1 x2 x3) from rfl))
def T54 : CallF := addF T53 65 s65
theorem ok54 : CfOk Try.prog T54 := by
  refine cfOk_add ok53 fun args s r s' h1 h2 h3 => ?_
  unfold s65 at h3; split at h3
  · rename_i h; exact callOk ok53 Try.func65 h1 h2 h (e65 _ _ _ _) rfl h3
  · exact ok53 _ _ _ _ _ h1 h2 h3

/-- spec.AddSpans -/
def r34 (x0 : Nat) (x1 : Nat) (x2 : Nat) (x3 : Nat) : Nat × Nat × Int :=
 cond (((r52 x0 x1 x2 x3) : Int) != 0)
  (0, 0, (r52 x0 x1 x2 x3))
  (((r65 x0 x1 x2 x3).1), ((r65 x0 x1 x2 x3).2), 0)
def s34 (args : List Value) (s : St) : Res :=
 match args, s.h with
 | [.agg ⟨[.float .f32 x0, .float .f32 x1]⟩, .agg ⟨[.float .f32 x2, .float .f32 x3]⟩], [] => some (.tuple #[.agg #[.float .f32 ((r34 x0 x1 x2 x3).1), .float .f32 ((r34 x0 x1 x2 x3).2.1)], .int .i64 ((r34 x0 x1 x2 x3).2.2)], st0)
 | _, _ => T54 34 args s
def a34 (x0 : Nat) (x1 : Nat) (x2 : Nat) (x3 : Nat) (p : Nat × Nat × Int) : Res := some (.tuple #[.agg #[.float .f32 (p.1), .float .f32 (p.2.1)], .int .i64 (p.2.2)], st0)
def t34 (x0 : Nat) (x1 : Nat) (x2 : Nat) (x3 : Nat) : Res :=
 (cond (((r52 x0 x1 x2 x3) : Int) != 0)
 (some (.tuple #[.agg #[.float .f32 0, .float .f32 0], .int .i64 (r52 x0 x1 x2 x3)], st0))
 (some (.tuple #[.agg #[.float .f32 ((r65 x0 x1 x2 x3).1), .float .f32 ((r65 x0 x1 x2 x3).2)], .int .i64 0], st0)))
theorem e34 (x0 : Nat) (x1 : Nat) (x2 : Nat) (x3 : Nat) : evFn Try.prog ext T54 200 Try.f34 [.agg #[.float .f32 x0, .float .f32 x1], .agg #[.float .f32 x2, .float .f32 x3]] st0 = some (.tuple #[.agg #[.float .f32 ((r34 x0 x1 x2 x3).1), .float .f32 ((r34 x0 x1 x2 x3).2.1)], .int .i64 ((r34 x0 x1 x2 x3).2.2)], st0) :=
 (show evFn Try.prog ext T54 200 Try.f34 [.agg #[.float .f32 x0, .float .f32 x1], .agg #[.float .f32 x2, .float .f32 x3]] st0 = t34 x0 x1 x2 x3 from by kernel_rfl).trans
 ((show t34 x0 x1 x2 x3 = a34 x0 x1 x2 x3 (r34 x0 x1 x2 x3) from (cond_app (a34 x0 x1 x2 x3) _ rfl rfl)))
def T55 : CallF := addF T54 34 s34
theorem ok55 : CfOk Try.prog T55 := by
  refine cfOk_add ok54 fun args s r s' h1 h2 h3 => ?_
  unfold s34 at h3; split at h3
  · rename_i h; exact callOk ok54 Try.func34 h1 h2 h (e34 _ _ _ _) rfl h3
  · exact ok54 _ _ _ _ _ h1 h2 h3

/-- impl.infinity -/
def r81 : Unit :=
 ()
def s81 (args : List Value) (s : St) : Res :=
 match args, s.h with
 | [.int .i64 f0], [] => if f0 = (-1) then some (.float .f32 4286578688, st0) else T55 81 args s
 | _, _ => T55 81 args s
def a81 (p : Unit) : Res := some (.float .f32 4286578688, st0)
def t81 : Res :=
 (some (.float .f32 4286578688, st0))
theorem e81 : evFn Try.prog ext T55 200 Try.f81 [.int .i64 (-1)] st0 = some (.float .f32 4286578688, st0) :=
 (show evFn Try.prog ext T55 200 Try.f81 [.int .i64 (-1)] st0 = t81 from by kernel_rfl).trans
 ((show t81 = a81 r81 from rfl))
def T56 : CallF := addF T55 81 s81
theorem ok56 : CfOk Try.prog T56 := by
  refine cfOk_add ok55 fun args s r s' h1 h2 h3 => ?_
  unfold s81 at h3; split at h3
  · rename_i h; split at h3
    · rename_i hc; obtain ⟨rfl⟩ := hc; exact callOk ok55 Try.func81 h1 h2 h (e81) rfl h3
    · exact ok55 _ _ _ _ _ h1 h2 h3
  · exact ok55 _ _ _ _ _ h1 h2 h3

/-- impl.lowEnd -/
def r78 (x0 : Nat) : Nat :=
 cond (!feq .f32 x0 x0)
  (4286578688)
  ((r24 x0))
def s78 (args : List Value) (s : St) : Res :=
 match args, s.h with
 | [.float .f32 x0], [] => some (.float .f32 (r78 x0), st0)
 | _, _ => T56 78 args s
def a78 (x0 : Nat) (p : Nat) : Res := some (.float .f32 p, st0)
def t78 (x0 : Nat) : Res :=
 (cond (!feq .f32 x0 x0)
 (some (.float .f32 4286578688, st0))
 (some (.float .f32 (r24 x0), st0)))
theorem e78 (x0 : Nat) : evFn Try.prog ext T56 200 Try.f78 [.float .f32 x0] st0 = some (.float .f32 (r78 x0), st0) :=
 (show evFn Try.prog ext T56 200 Try.f78 [.float .f32 x0] st0 = t78 x0 from by kernel_rfl).trans
 ((show t78 x0 = a78 x0 (r78 x0) from (cond_app (a78 x0) _ rfl rfl)))
def T57 : CallF := addF T56 78 s78
theorem ok57 : CfOk Try.prog T57 := by
  refine cfOk_add ok56 fun args s r s' h1 h2 h3 => ?_
  unfold s78 at h3; split at h3
  · rename_i h; exact callOk ok56 Try.func78 h1 h2 h (e78 _) rfl h3
  · exact ok56 _ _ _ _ _ h1 h2 h3

/-- impl.infinity -/
def r81b : Unit :=
 ()
def s81b (args : List Value) (s : St) : Res :=
 match args, s.h with
 | [.int .i64 f0], [] => if f0 = 1 then some (.float .f32 2139095040, st0) else T57 81 args s
 | _, _ => T57 81 args s
def a81b (p : Unit) : Res := some (.float .f32 2139095040, st0)
def t81b : Res :=
 (some (.float .f32 2139095040, st0))
theorem e81b : evFn Try.prog ext T57 200 Try.f81 [.int .i64 1] st0 = some (.float .f32 2139095040, st0) :=
 (show evFn Try.prog ext T57 200 Try.f81 [.int .i64 1] st0 = t81b from by kernel_rfl).trans
 ((show t81b = a81b r81b from rfl))
def T58 : CallF := addF T57 81 s81b
theorem ok58 : CfOk Try.prog T58 := by
  refine cfOk_add ok57 fun args s r s' h1 h2 h3 => ?_
  unfold s81b at h3; split at h3
  · rename_i h; split at h3
    · rename_i hc; obtain ⟨rfl⟩ := hc; exact callOk ok57 Try.func81 h1 h2 h (e81b) rfl h3
    · exact ok57 _ _ _ _ _ h1 h2 h3
  · exact ok57 _ _ _ _ _ h1 h2 h3

/-- impl.highEnd -/
def r79 (x0 : Nat) : Nat :=
 cond (!feq .f32 x0 x0)
  (2139095040)
  ((r21 x0))
def s79 (args : List Value) (s : St) : Res :=
 match args, s.h with
 | [.float .f32 x0], [] => some (.float .f32 (r79 x0), st0)
 | _, _ => T58 79 args s
def a79 (x0 : Nat) (p : Nat) : Res := some (.float .f32 p, st0)
def t79 (x0 : Nat) : Res :=
 (cond (!feq .f32 x0 x0)
 (some (.float .f32 2139095040, st0))
 (some (.float .f32 (r21 x0), st0)))
theorem e79 (x0 : Nat) : evFn Try.prog ext T58 200 Try.f79 [.float .f32 x0] st0 = some (.float .f32 (r79 x0), st0) :=
 (show evFn Try.prog ext T58 200 Try.f79 [.float .f32 x0] st0 = t79 x0 from by kernel_rfl).trans
 ((show t79 x0 = a79 x0 (r79 x0) from (cond_app (a79 x0) _ rfl rfl)))
def T59 : CallF := addF T58 79 s79
theorem ok59 : CfOk Try.prog T59 := by
  refine cfOk_add ok58 fun args s r s' h1 h2 h3 => ?_
  unfold s79 at h3; split at h3
  · rename_i h; exact callOk ok58 Try.func79 h1 h2 h (e79 _) rfl h3
  · exact ok58 _ _ _ _ _ h1 h2 h3

/-- impl.addSpans -/
def r66 (x0 : Nat) (x1 : Nat) (x2 : Nat) (x3 : Nat) : Nat × Nat :=
 ((r78 (fadd .f32 x0 x2)), (r79 (fadd .f32 x1 x3)))
def s66 (args : List Value) (s : St) : Res :=
 match args, s.h with
 | [.agg ⟨[.float .f32 x0, .float .f32 x1]⟩, .agg ⟨[.float .f32 x2, .float .f32 x3]⟩], [] => some (.agg #[.float .f32 ((r66 x0 x1 x2 x3).1), .float .f32 ((r66 x0 x1 x2 x3).2)], st0)
 | _, _ => T59 66 args s
def a66 (x0 : Nat) (x1 : Nat) (x2 : Nat) (x3 : Nat) (p : Nat × Nat) : Res := some (.agg #[.float .f32 (p.1), .float .f32 (p.2)], st0)
def t66 (x0 : Nat) (x1 : Nat) (x2 : Nat) (x3 : Nat) : Res :=
 (some (.agg #[.float .f32 (r78 (fadd .f32 x0 x2)), .float .f32 (r79 (fadd .f32 x1 x3))], st0))
theorem e66 (x0 : Nat) (x1 : Nat) (x2 : Nat) (x3 : Nat) : evFn Try.prog ext T59 200 Try.f66 [.agg #[.float .f32 x0, .float .f32 x1], .agg #[.float .f32 x2, .float .f32 x3]] st0 = some (.agg #[.float .f32 ((r66 x0 x1 x2 x3).1), .float .f32 ((r66 x0 x1 x2 x3).2)], st0) :=
 (show evFn Try.prog ext T59 200 Try.f66 [.agg #[.float .f32 x0, .float .f32 x1], .agg #[.float .f32 x2, .float .f32 x3]] st0 = t66 x0 x1 x2 x3 from by kernel_rfl).trans
 ((show t66 x0 x1 x2 x3 = a66 x0 x1 x2 x3 (r66 x0 x1 x2 x3) from rfl))
def T60 : CallF := addF T59 66 s66
theorem ok60 : CfOk Try.prog T60 := by
  refine cfOk_add ok59 fun args s r s' h1 h2 h3 => ?_
  unfold s66 at h3; split at h3
  · rename_i h; exact callOk ok59 Try.func66 h1 h2 h (e66 _ _ _ _) rfl h3
  · exact ok59 _ _ _ _ _ h1 h2 h3

/-- impl.onSpans -/
def r54c (x0 : Nat) (x1 : Nat) (x2 : Nat) (x3 : Nat) : Nat × Nat × Int :=
 cond (!((r62 x0 x1 x2 x3).1))
  (0, 0, 1)
  (((r66 x0 x1 x2 x3).1), ((r66 x0 x1 x2 x3).2), 0)
def s54c (args : List Value) (s : St) : Res :=
 match args, s.h with
 | [.agg ⟨[.float .f32 x0, .float .f32 x1]⟩, .agg ⟨[.float .f32 x2, .float .f32 x3]⟩, .func (.func f0) ⟨[]⟩ ⟨[]⟩], [] => if f0 = 66 then some (.tuple #[.agg #[.float .f32 ((r54c x0 x1 x2 x3).1), .float .f32 ((r54c x0 x1 x2 x3).2.1)], .int .i64 ((r54c x0 x1 x2 x3).2.2)], st0) else T60 54 args s
 | _, _ => T60 54 args s
def a54c (x0 : Nat) (x1 : Nat) (x2 : Nat) (x3 : Nat) (p : Nat × Nat × Int) : Res := some (.tuple #[.agg #[.float .f32 (p.1), .float .f32 (p.2.1)], .int .i64 (p.2.2)], st0)
def t54c (x0 : Nat) (x1 : Nat) (x2 : Nat) (x3 : Nat) : Res :=
 (cond (!((r62 x0 x1 x2 x3).1))
 (some (.tuple #[.agg #[.float .f32 0, .float .f32 0], .int .i64 1], st0))
 (some (.tuple #[.agg #[.float .f32 ((r66 x0 x1 x2 x3).1), .float .f32 ((r66 x0 x1 x2 x3).2)], .int .i64 0], st0)))
theorem e54c (x0 : Nat) (x1 : Nat) (x2 : Nat) (x3 : Nat) : evFn Try.prog ext T60 200 Try.f54 [.agg #[.float .f32 x0, .float .f32 x1], .agg #[.float .f32 x2, .float .f32 x3], .func (.func 66) #[] #[]] st0 = some (.tuple #[.agg #[.float .f32 ((r54c x0 x1 x2 x3).1), .float .f32 ((r54c x0 x1 x2 x3).2.1)], .int .i64 ((r54c x0 x1 x2 x3).2.2)], st0) :=
 (show evFn Try.prog ext T60 200 Try.f54 [.agg #[.float .f32 x0, .float .f32 x1], .agg #[.float .f32 x2, .float .f32 x3], .func (.func 66) #[] #[]] st0 = t54c x0 x1 x2 x3 from by kernel_rfl).trans
 ((show t54c x0 x1 x2 x3 = a54c x0 x1 x2 x3 (r54c x0 x1 x2 x3) from (cond_app (a54c x0 x1 x2 x3) _ rfl rfl)))
def T61 : CallF := addF T60 54 s54c
theorem ok61 : CfOk Try.prog T61 := by
  refine cfOk_add ok60 fun args s r s' h1 h2 h3 => ?_
  unfold s54c at h3; split at h3
  · rename_i h; split at h3
    · rename_i hc; obtain ⟨rfl⟩ := hc; exact callOk ok60 Try.func54 h1 h2 h (e54c _ _ _ _) rfl h3
    · exact ok60 _ _ _ _ _ h1 h2 h3
  · exact ok60 _ _ _ _ _ h1 h2 h3

/-- impl.AddSpans -/
def r35 (x0 : Nat) (x1 : Nat) (x2 : Nat) (x3 : Nat) : Nat × Nat × Int :=
 (((r54c x0 x1 x2 x3).1), ((r54c x0 x1 x2 x3).2.1), ((r54c x0 x1 x2 x3).2.2))
def s35 (args : List Value) (s : St) : Res :=
 match args, s.h with
 | [.agg ⟨[.float .f32 x0, .float .f32 x1]⟩, .agg ⟨[.float .f32 x2, .float .f32 x3]⟩], [] => some (.tuple #[.agg #[.float .f32 ((r35 x0 x1 x2 x3).1), .float .f32 ((r35 x0 x1 x2 x3).2.1)], .int .i64 ((r35 x0 x1 x2 x3).2.2)], st0)
 | _, _ => T61 35 args s
def a35 (x0 : Nat) (x1 : Nat) (x2 : Nat) (x3 : Nat) (p : Nat × Nat × Int) : Res := some (.tuple #[.agg #[.float .f32 (p.1), .float .f32 (p.2.1)], .int .i64 (p.2.2)], st0)
def t35 (x0 : Nat) (x1 : Nat) (x2 : Nat) (x3 : Nat) : Res :=
 (some (.tuple #[.agg #[.float .f32 ((r54c x0 x1 x2 x3).1), .float .f32 ((r54c x0 x1 x2 x3).2.1)], .int .i64 ((r54c x0 x1 x2 x3).2.2)], st0))
theorem e35 (x0 : Nat) (x1 : Nat) (x2 : Nat) (x3 : Nat) : evFn Try.prog ext T61 200 Try.f35 [.agg #[.float .f32 x0, .float .f32 x1], .agg #[.float .f32 x2, .float .f32 x3]] st0 = some (.tuple #[.agg #[.float .f32 ((r35 x0 x1 x2 x3).1), .float .f32 ((r35 x0 x1 x2 x3).2.1)], .int .i64 ((r35 x0 x1 x2 x3).2.2)], st0) :=
 (show evFn Try.prog ext T61 200 Try.f35 [.agg #[.float .f32 x0, .float .f32 x1], .agg #[.float .f32 x2, .float .f32 x3]] st0 = t35 x0 x1 x2 x3 from by kernel_rfl).trans
 ((show t35 x0 x1 x2 x3 = a35 x0 x1 x2 x3 (r35 x0 x1 x2 x3) from rfl))
def T62 : CallF := addF T61 35 s35
theorem ok62 : CfOk Try.prog T62 := by
  refine cfOk_add ok61 fun args s r s' h1 h2 h3 => ?_
  unfold s35 at h3; split at h3
  · rename_i h; exact callOk ok61 Try.func35 h1 h2 h (e35 _ _ _ _) rfl h3
  · exact ok61 _ _ _ _ _ h1 h2 h3

/-- laws.FnExactAddSpans -/
def r11 (x0 : Nat) (x1 : Nat) (x2 : Nat) (x3 : Nat) : Bool :=
 cond (!(r27 ((r35 ((r16 x0 x1).1) ((r16 x0 x1).2) ((r16 x2 x3).1) ((r16 x2 x3).2)).1) ((r35 ((r16 x0 x1).1) ((r16 x0 x1).2) ((r16 x2 x3).1) ((r16 x2 x3).2)).2.1) ((r34 ((r16 x0 x1).1) ((r16 x0 x1).2) ((r16 x2 x3).1) ((r16 x2 x3).2)).1) ((r34 ((r16 x0 x1).1) ((r16 x0 x1).2) ((r16 x2 x3).1) ((r16 x2 x3).2)).2.1)))
  (false)
  (cond ((((r35 ((r16 x0 x1).1) ((r16 x0 x1).2) ((r16 x2 x3).1) ((r16 x2 x3).2)).2.2) : Int) != ((r34 ((r16 x0 x1).1) ((r16 x0 x1).2) ((r16 x2 x3).1) ((r16 x2 x3).2)).2.2))
   (false)
   (true))
def s11 (args : List Value) (s : St) : Res :=
 match args, s.h with
 | [.agg ⟨[.float .f32 x0, .float .f32 x1]⟩, .agg ⟨[.float .f32 x2, .float .f32 x3]⟩], [] => some (.bool (r11 x0 x1 x2 x3), st0)
 | _, _ => T62 11 args s
def a11 (x0 : Nat) (x1 : Nat) (x2 : Nat) (x3 : Nat) (p : Bool) : Res := some (.bool p, st0)
def t11 (x0 : Nat) (x1 : Nat) (x2 : Nat) (x3 : Nat) : Res :=
 (cond (!(r27 ((r35 ((r16 x0 x1).1) ((r16 x0 x1).2) ((r16 x2 x3).1) ((r16 x2 x3).2)).1) ((r35 ((r16 x0 x1).1) ((r16 x0 x1).2) ((r16 x2 x3).1) ((r16 x2 x3).2)).2.1) ((r34 ((r16 x0 x1).1) ((r16 x0 x1).2) ((r16 x2 x3).1) ((r16 x2 x3).2)).1) ((r34 ((r16 x0 x1).1) ((r16 x0 x1).2) ((r16 x2 x3).1) ((r16 x2 x3).2)).2.1)))
 (some (.bool false, st0))
 (cond ((((r35 ((r16 x0 x1).1) ((r16 x0 x1).2) ((r16 x2 x3).1) ((r16 x2 x3).2)).2.2) : Int) != ((r34 ((r16 x0 x1).1) ((r16 x0 x1).2) ((r16 x2 x3).1) ((r16 x2 x3).2)).2.2))
  (some (.bool false, st0))
  (some (.bool true, st0))))
theorem e11 (x0 : Nat) (x1 : Nat) (x2 : Nat) (x3 : Nat) : evFn Try.prog ext T62 200 Try.f11 [.agg #[.float .f32 x0, .float .f32 x1], .agg #[.float .f32 x2, .float .f32 x3]] st0 = some (.bool (r11 x0 x1 x2 x3), st0) :=
 (show evFn Try.prog ext T62 200 Try.f11 [.agg #[.float .f32 x0, .float .f32 x1], .agg #[.float .f32 x2, .float .f32 x3]] st0 = t11 x0 x1 x2 x3 from by kernel_rfl).trans
 ((show t11 x0 x1 x2 x3 = a11 x0 x1 x2 x3 (r11 x0 x1 x2 x3) from (cond_app (a11 x0 x1 x2 x3) _ rfl (cond_app (a11 x0 x1 x2 x3) _ rfl rfl))))
def T63 : CallF := addF T62 11 s11
theorem ok63 : CfOk Try.prog T63 := by
  refine cfOk_add ok62 fun args s r s' h1 h2 h3 => ?_
  unfold s11 at h3; split at h3
  · rename_i h; exact callOk ok62 Try.func11 h1 h2 h (e11 _ _ _ _) rfl h3
  · exact ok62 _ _ _ _ _ h1 h2 h3
end Go.Proofs.Ytpeehlgiddbfpaa
