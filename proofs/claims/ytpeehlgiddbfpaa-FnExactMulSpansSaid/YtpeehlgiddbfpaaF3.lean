/- What the functions that FnExactNextUp reaches answer. -/
import Derived.Test.YtpeehlgiddbfpaaF2
namespace Go.Proofs.Ytpeehlgiddbfpaa
open Go.Ab

/-- spec.l05Up -/
def r47 (x0 : Nat) : Nat :=
 cond (!feq .f32 x0 x0)
  (x0)
  (cond (fgt .f32 x0 2139095039)
   (x0)
   (cond (feq .f32 x0 0)
    (1)
    (cond (fgt .f32 x0 0)
     ((Int.toNat (IntKind.u32.wrap (((x0 : Nat) : Int) + 1))))
     ((Int.toNat (IntKind.u32.wrap (((x0 : Nat) : Int) - 1)))))))
def s47 (args : List Value) (s : St) : Res :=
 match args, s.h with
 | [.float .f32 x0], [] => some (.float .f32 (r47 x0), st0)
 | _, _ => T9 47 args s
def a47 (x0 : Nat) (p : Nat) : Res := some (.float .f32 p, st0)
def t47 (x0 : Nat) : Res :=
 (cond (!feq .f32 x0 x0)
 (some (.float .f32 x0, st0))
 (cond (fgt .f32 x0 2139095039)
  (some (.float .f32 x0, st0))
  (cond (feq .f32 x0 0)
   (some (.float .f32 1, st0))
   (cond (fgt .f32 x0 0)
    (some (.float .f32 (Int.toNat (IntKind.u32.wrap (((x0 : Nat) : Int) + 1))), st0))
    (some (.float .f32 (Int.toNat (IntKind.u32.wrap (((x0 : Nat) : Int) - 1))), st0))))))
theorem e47 (x0 : Nat) : evFn Try.prog ext T9 200 Try.f47 [.float .f32 x0] st0 = some (.float .f32 (r47 x0), st0) :=
 (show evFn Try.prog ext T9 200 Try.f47 [.float .f32 x0] st0 = (cond (!feq .f32 x0 x0)
 (some (.float .f32 x0, st0))
 (cond (fgt .f32 x0 2139095039)
  (some (.float .f32 x0, st0))
  (cond (!isN .f32 x0)
   (cond (feq .f32 x0 0)
    (some (.float .f32 1, st0))
    (cond (fgt .f32 x0 0)
     (some (.float .f32 (Int.toNat (IntKind.u32.wrap (((x0 : Nat) : Int) + 1))), st0))
     (some (.float .f32 (Int.toNat (IntKind.u32.wrap (((x0 : Nat) : Int) - 1))), st0))))
   (cond (feq .f32 x0 0)
    (some (.float .f32 1, st0))
    (cond (fgt .f32 x0 0)
     none
     none))))) from by kernel_rfl).trans
 (show (cond (!feq .f32 x0 x0)
 (some (.float .f32 x0, st0))
 (cond (fgt .f32 x0 2139095039)
  (some (.float .f32 x0, st0))
  (cond (!isN .f32 x0)
   (cond (feq .f32 x0 0)
    (some (.float .f32 1, st0))
    (cond (fgt .f32 x0 0)
     (some (.float .f32 (Int.toNat (IntKind.u32.wrap (((x0 : Nat) : Int) + 1))), st0))
     (some (.float .f32 (Int.toNat (IntKind.u32.wrap (((x0 : Nat) : Int) - 1))), st0))))
   (cond (feq .f32 x0 0)
    (some (.float .f32 1, st0))
    (cond (fgt .f32 x0 0)
     none
     none))))) = t47 x0 from by
  unfold t47
  simp only [← feq_self]
  cases feq .f32 x0 x0 <;> 
  rfl) |>.trans
 ((show t47 x0 = a47 x0 (r47 x0) from (cond_app (a47 x0) _ rfl (cond_app (a47 x0) _ rfl (cond_app (a47 x0) _ rfl (cond_app (a47 x0) _ rfl rfl))))))
def T10 : CallF := addF T9 47 s47
theorem ok10 : CfOk Try.prog T10 := by
  refine cfOk_add ok9 fun args s r s' h1 h2 h3 => ?_
  unfold s47 at h3; split at h3
  · rename_i h; exact callOk ok9 Try.func47 h1 h2 h (e47 _) rfl h3
  · exact ok9 _ _ _ _ _ h1 h2 h3

/-- spec.NextUp -/
def r20 (x0 : Nat) : Nat :=
 ((r47 x0))
def s20 (args : List Value) (s : St) : Res :=
 match args, s.h with
 | [.float .f32 x0], [] => some (.float .f32 (r20 x0), st0)
 | _, _ => T10 20 args s
def a20 (x0 : Nat) (p : Nat) : Res := some (.float .f32 p, st0)
def t20 (x0 : Nat) : Res :=
 (some (.float .f32 (r47 x0), st0))
theorem e20 (x0 : Nat) : evFn Try.prog ext T10 200 Try.f20 [.float .f32 x0] st0 = some (.float .f32 (r20 x0), st0) :=
 (show evFn Try.prog ext T10 200 Try.f20 [.float .f32 x0] st0 = t20 x0 from by kernel_rfl).trans
 ((show t20 x0 = a20 x0 (r20 x0) from rfl))
def T11 : CallF := addF T10 20 s20
theorem ok11 : CfOk Try.prog T11 := by
  refine cfOk_add ok10 fun args s r s' h1 h2 h3 => ?_
  unfold s20 at h3; split at h3
  · rename_i h; exact callOk ok10 Try.func20 h1 h2 h (e20 _) rfl h3
  · exact ok10 _ _ _ _ _ h1 h2 h3

/-- math.Abs -/
def r74 (x0 : Nat) : Nat :=
 cond (!isN .f64 x0)
  ((Int.toNat (bits .andNot .u64 ((x0 : Nat) : Int) 9223372036854775808)))
  (9221120237041090560)
def s74 (args : List Value) (s : St) : Res :=
 match args, s.h with
 | [.float .f64 x0], [] => some (.float .f64 (r74 x0), st0)
 | _, _ => T11 74 args s
def a74 (x0 : Nat) (p : Nat) : Res := some (.float .f64 p, st0)
def t74 (x0 : Nat) : Res :=
 (cond (!isN .f64 x0)
 (some (.float .f64 (Int.toNat (bits .andNot .u64 ((x0 : Nat) : Int) 9223372036854775808)), st0))
 (some (.float .f64 9221120237041090560, st0)))
theorem e74 (x0 : Nat) : evFn Try.prog ext T11 200 Try.f74 [.float .f64 x0] st0 = some (.float .f64 (r74 x0), st0) :=
 (show evFn Try.prog ext T11 200 Try.f74 [.float .f64 x0] st0 = t74 x0 from by kernel_rfl).trans
 ((show t74 x0 = a74 x0 (r74 x0) from (cond_app (a74 x0) _ rfl rfl)))
def T12 : CallF := addF T11 74 s74
theorem ok12 : CfOk Try.prog T12 := by
  refine cfOk_add ok11 fun args s r s' h1 h2 h3 => ?_
  unfold s74 at h3; split at h3
  · rename_i h; exact callOk ok11 Try.func74 h1 h2 h (e74 _) rfl h3
  · exact ok11 _ _ _ _ _ h1 h2 h3

/-- math.IsInf -/
def r49 (x0 : Nat) (x1 : Int) : Bool :=
 cond ((x1 : Int) == 0)
  ((fgt .f64 (r74 x0) 9218868437227405311))
  (cond (decide ((x1 : Int) < 0))
   ((fgt .f64 (fneg .f64 x0) 9218868437227405311))
   ((fgt .f64 x0 9218868437227405311)))
def s49 (args : List Value) (s : St) : Res :=
 match args, s.h with
 | [.float .f64 x0, .int .i64 x1], [] => some (.bool (r49 x0 x1), st0)
 | _, _ => T12 49 args s
def a49 (x0 : Nat) (x1 : Int) (p : Bool) : Res := some (.bool p, st0)
def t49 (x0 : Nat) (x1 : Int) : Res :=
 (cond ((x1 : Int) == 0)
 (some (.bool (fgt .f64 (r74 x0) 9218868437227405311), st0))
 (cond (decide ((x1 : Int) < 0))
  (some (.bool (fgt .f64 (fneg .f64 x0) 9218868437227405311), st0))
  (some (.bool (fgt .f64 x0 9218868437227405311), st0))))
theorem e49 (x0 : Nat) (x1 : Int) : evFn Try.prog ext T12 200 Try.f49 [.float .f64 x0, .int .i64 x1] st0 = some (.bool (r49 x0 x1), st0) :=
 (show evFn Try.prog ext T12 200 Try.f49 [.float .f64 x0, .int .i64 x1] st0 = t49 x0 x1 from by kernel_rfl).trans
 ((show t49 x0 x1 = a49 x0 x1 (r49 x0 x1) from (cond_app (a49 x0 x1) _ rfl (cond_app (a49 x0 x1) _ rfl rfl))))
def T13 : CallF := addF T12 49 s49
theorem ok13 : CfOk Try.prog T13 := by
  refine cfOk_add ok12 fun args s r s' h1 h2 h3 => ?_
  unfold s49 at h3; split at h3
  · rename_i h; exact callOk ok12 Try.func49 h1 h2 h (e49 _ _) rfl h3
  · exact ok12 _ _ _ _ _ h1 h2 h3

/-- impl.NextUp -/
def r21 (x0 : Nat) : Nat :=
 cond (!isN .f32 x0)
  (cond (!feq .f32 x0 x0)
   (x0)
   (cond (r49 (widen x0) 1)
    (x0)
    (cond ((((x0 : Nat) : Int) : Int) == 2147483648)
     (1)
     (cond (((Int.fdiv ((x0 : Nat) : Int) (2 ^ (min (31 : Int).toNat (IntKind.bits .u32)))) : Int) != 0)
      ((Int.toNat (IntKind.u32.wrap (((x0 : Nat) : Int) - 1))))
      ((Int.toNat (IntKind.u32.wrap (((x0 : Nat) : Int) + 1))))))))
  (x0)
def s21 (args : List Value) (s : St) : Res :=
 match args, s.h with
 | [.float .f32 x0], [] => some (.float .f32 (r21 x0), st0)
 | _, _ => T13 21 args s
def a21 (x0 : Nat) (p : Nat) : Res := some (.float .f32 p, st0)
def t21 (x0 : Nat) : Res :=
 (cond (!isN .f32 x0)
 (cond (!feq .f32 x0 x0)
  (some (.float .f32 x0, st0))
  (cond (r49 (widen x0) 1)
   (some (.float .f32 x0, st0))
   (cond ((((x0 : Nat) : Int) : Int) == 2147483648)
    (some (.float .f32 1, st0))
    (cond (((Int.fdiv ((x0 : Nat) : Int) (2 ^ (min (31 : Int).toNat (IntKind.bits .u32)))) : Int) != 0)
     (some (.float .f32 (Int.toNat (IntKind.u32.wrap (((x0 : Nat) : Int) - 1))), st0))
     (some (.float .f32 (Int.toNat (IntKind.u32.wrap (((x0 : Nat) : Int) + 1))), st0))))))
 (some (.float .f32 x0, st0)))
theorem e21 (x0 : Nat) : evFn Try.prog ext T13 200 Try.f21 [.float .f32 x0] st0 = some (.float .f32 (r21 x0), st0) :=
 (show evFn Try.prog ext T13 200 Try.f21 [.float .f32 x0] st0 = (cond (!isN .f32 x0)
 (cond (!feq .f32 x0 x0)
  (some (.float .f32 x0, st0))
  (cond (r49 (widen x0) 1)
   (some (.float .f32 x0, st0))
   (cond ((((x0 : Nat) : Int) : Int) == 2147483648)
    (some (.float .f32 1, st0))
    (cond (((Int.fdiv ((x0 : Nat) : Int) (2 ^ (min (31 : Int).toNat (IntKind.bits .u32)))) : Int) != 0)
     (some (.float .f32 (Int.toNat (IntKind.u32.wrap (((x0 : Nat) : Int) - 1))), st0))
     (some (.float .f32 (Int.toNat (IntKind.u32.wrap (((x0 : Nat) : Int) + 1))), st0))))))
 (cond (!feq .f32 x0 x0)
  (some (.float .f32 x0, st0))
  (cond (r49 (widen x0) 1)
   (some (.float .f32 x0, st0))
   none))) from by kernel_rfl).trans
 (show (cond (!isN .f32 x0)
 (cond (!feq .f32 x0 x0)
  (some (.float .f32 x0, st0))
  (cond (r49 (widen x0) 1)
   (some (.float .f32 x0, st0))
   (cond ((((x0 : Nat) : Int) : Int) == 2147483648)
    (some (.float .f32 1, st0))
    (cond (((Int.fdiv ((x0 : Nat) : Int) (2 ^ (min (31 : Int).toNat (IntKind.bits .u32)))) : Int) != 0)
     (some (.float .f32 (Int.toNat (IntKind.u32.wrap (((x0 : Nat) : Int) - 1))), st0))
     (some (.float .f32 (Int.toNat (IntKind.u32.wrap (((x0 : Nat) : Int) + 1))), st0))))))
 (cond (!feq .f32 x0 x0)
  (some (.float .f32 x0, st0))
  (cond (r49 (widen x0) 1)
   (some (.float .f32 x0, st0))
   none))) = t21 x0 from by
  unfold t21
  simp only [← feq_self]
  cases feq .f32 x0 x0 <;> 
  rfl) |>.trans
 ((show t21 x0 = a21 x0 (r21 x0) from (cond_app (a21 x0) _ (cond_app (a21 x0) _ rfl (cond_app (a21 x0) _ rfl (cond_app (a21 x0) _ rfl (cond_app (a21 x0) _ rfl rfl)))) rfl)))
def T14 : CallF := addF T13 21 s21
theorem ok14 : CfOk Try.prog T14 := by
  refine cfOk_add ok13 fun args s r s' h1 h2 h3 => ?_
  unfold s21 at h3; split at h3
  · rename_i h; exact callOk ok13 Try.func21 h1 h2 h (e21 _) rfl h3
  · exact ok13 _ _ _ _ _ h1 h2 h3

/-- laws.sameFloat -/
def r22 (x0 : Nat) (x1 : Nat) : Bool :=
 cond (!feq .f64 x0 x0)
  (cond (!feq .f64 x0 x0)
   ((!feq .f64 x1 x1))
   (false))
  (cond (!feq .f64 x1 x1)
   (cond (!feq .f64 x0 x0)
    ((!feq .f64 x1 x1))
    (false))
   (cond (feq .f64 x0 0)
    (cond (feq .f64 x1 0)
     (((fgt .f64 (fdiv .f64 4607182418800017408 x0) 0) == (fgt .f64 (fdiv .f64 4607182418800017408 x1) 0)))
     ((feq .f64 x0 x1)))
    ((feq .f64 x0 x1))))
def s22 (args : List Value) (s : St) : Res :=
 match args, s.h with
 | [.float .f64 x0, .float .f64 x1], [] => some (.bool (r22 x0 x1), st0)
 | _, _ => T14 22 args s
def a22 (x0 : Nat) (x1 : Nat) (p : Bool) : Res := some (.bool p, st0)
def t22 (x0 : Nat) (x1 : Nat) : Res :=
 (cond (!feq .f64 x0 x0)
 (cond (!feq .f64 x0 x0)
  (some (.bool (!feq .f64 x1 x1), st0))
  (some (.bool false, st0)))
 (cond (!feq .f64 x1 x1)
  (cond (!feq .f64 x0 x0)
   (some (.bool (!feq .f64 x1 x1), st0))
   (some (.bool false, st0)))
  (cond (feq .f64 x0 0)
   (cond (feq .f64 x1 0)
    (some (.bool ((fgt .f64 (fdiv .f64 4607182418800017408 x0) 0) == (fgt .f64 (fdiv .f64 4607182418800017408 x1) 0)), st0))
    (some (.bool (feq .f64 x0 x1), st0)))
   (some (.bool (feq .f64 x0 x1), st0)))))
theorem e22 (x0 : Nat) (x1 : Nat) : evFn Try.prog ext T14 200 Try.f22 [.float .f64 x0, .float .f64 x1] st0 = some (.bool (r22 x0 x1), st0) :=
 (show evFn Try.prog ext T14 200 Try.f22 [.float .f64 x0, .float .f64 x1] st0 = t22 x0 x1 from by kernel_rfl).trans
 ((show t22 x0 x1 = a22 x0 x1 (r22 x0 x1) from (cond_app (a22 x0 x1) _ (cond_app (a22 x0 x1) _ rfl rfl) (cond_app (a22 x0 x1) _ (cond_app (a22 x0 x1) _ rfl rfl) (cond_app (a22 x0 x1) _ (cond_app (a22 x0 x1) _ rfl rfl) rfl)))))
def T15 : CallF := addF T14 22 s22
theorem ok15 : CfOk Try.prog T15 := by
  refine cfOk_add ok14 fun args s r s' h1 h2 h3 => ?_
  unfold s22 at h3; split at h3
  · rename_i h; exact callOk ok14 Try.func22 h1 h2 h (e22 _ _) rfl h3
  · exact ok14 _ _ _ _ _ h1 h2 h3

/-- laws.FnExactNextUp -/
def r5 (x0 : Nat) : Bool :=
 cond (!(r22 (widen (r21 x0)) (widen (r20 x0))))
  (false)
  (true)
def s5 (args : List Value) (s : St) : Res :=
 match args, s.h with
 | [.float .f32 x0], [] => some (.bool (r5 x0), st0)
 | _, _ => T15 5 args s
def a5 (x0 : Nat) (p : Bool) : Res := some (.bool p, st0)
def t5 (x0 : Nat) : Res :=
 (cond (!(r22 (widen (r21 x0)) (widen (r20 x0))))
 (some (.bool false, st0))
 (some (.bool true, st0)))
theorem e5 (x0 : Nat) : evFn Try.prog ext T15 200 Try.f5 [.float .f32 x0] st0 = some (.bool (r5 x0), st0) :=
 (show evFn Try.prog ext T15 200 Try.f5 [.float .f32 x0] st0 = t5 x0 from by kernel_rfl).trans
 ((show t5 x0 = a5 x0 (r5 x0) from (cond_app (a5 x0) _ rfl rfl)))
def T16 : CallF := addF T15 5 s5
theorem ok16 : CfOk Try.prog T16 := by
  refine cfOk_add ok15 fun args s r s' h1 h2 h3 => ?_
  unfold s5 at h3; split at h3
  · rename_i h; exact callOk ok15 Try.func5 h1 h2 h (e5 _) rfl h3
  · exact ok15 _ _ _ _ _ h1 h2 h3
end Go.Proofs.Ytpeehlgiddbfpaa
