/- What the functions that FnExactValidSpan reaches answer. -/
import Derived.Test.YtpeehlgiddbfpaaA19
import Derived.KernelRfl
import Derived.Test.YtpeehlgiddbfpaaChecked
namespace Go.Proofs.Ytpeehlgiddbfpaa
open Go.Ab

def ext : FuncId → Option Ext := fun g => cond (Nat.beq g 48) (some .f32bits) (cond (Nat.beq g 50) (some .f32from) (cond (Nat.beq g 85) (some .f64from) (cond (Nat.beq g 86) (some .f64bits) none)))
theorem ext_case {g : FuncId} {e : Ext} (h : ext g = some e) : g = 48 ∧ e = .f32bits ∨ g = 50 ∧ e = .f32from ∨ g = 85 ∧ e = .f64from ∨ g = 86 ∧ e = .f64bits := by
  unfold ext at h
  cases h1 : Nat.beq g 48 with
  | true => rw [h1] at h; cases h; exact .inl ⟨Nat.eq_of_beq_eq_true h1, rfl⟩
  | false =>
    rw [h1] at h
    cases h2 : Nat.beq g 50 with
    | true => rw [h2] at h; cases h; exact .inr (.inl ⟨Nat.eq_of_beq_eq_true h2, rfl⟩)
    | false =>
      rw [h2] at h
      cases h3 : Nat.beq g 85 with
      | true => rw [h3] at h; cases h; exact .inr (.inr (.inl ⟨Nat.eq_of_beq_eq_true h3, rfl⟩))
      | false =>
        rw [h3] at h
        cases h4 : Nat.beq g 86 with
        | true => rw [h4] at h; cases h; exact .inr (.inr (.inr ⟨Nat.eq_of_beq_eq_true h4, rfl⟩))
        | false => rw [h4] at h; cases h
theorem extOk : ExtOk Try.prog ext := by
  intro g e h
  rcases ext_case h with ⟨rfl, rfl⟩ | ⟨rfl, rfl⟩ | ⟨rfl, rfl⟩ | ⟨rfl, rfl⟩
  · exact ⟨Try.f48, Try.func48, by kernel_rfl, by kernel_rfl, by kernel_rfl, by kernel_rfl⟩
  · exact ⟨Try.f50, Try.func50, by kernel_rfl, by kernel_rfl, by kernel_rfl, by kernel_rfl⟩
  · exact ⟨Try.f85, Try.func85, by kernel_rfl, by kernel_rfl, by kernel_rfl, by kernel_rfl⟩
  · exact ⟨Try.f86, Try.func86, by kernel_rfl, by kernel_rfl, by kernel_rfl, by kernel_rfl⟩
theorem mixed : Try.prog.follows .mixedOrders = true := by kernel_rfl
theorem callOk {cf : CallF} (hcf : CfOk Try.prog cf) {N : Nat} {f : FuncId} {fn : Func} (hf : Try.prog.funcs[f]? = some fn) {args : List Value} {s : St} {l : List Blk} {n : Nat} {r r' : Value} {s1 s' : St} (h1 : s.lo = s.h.length) (h2 : s.touched = false) (h : s.h = l) (he : evFn Try.prog ext cf N fn args ⟨l, n, false⟩ = some (r, s1)) (hn : n = l.length) (h3 : some (r, s1) = some (r', s')) : CallsOK Try.prog f args s r' s' :=
  call_ok extOk mixed hcf hf h1 h2 h he hn h3
def T0 : CallF := noF
theorem ok0 : CfOk Try.prog T0 := cfOk_no _

/-- laws.toSpan -/
def r16 (x0 : Nat) (x1 : Nat) : Nat × Nat :=
 (x0, x1)
def s16 (args : List Value) (s : St) : Res :=
 match args, s.h with
 | [.agg ⟨[.float .f32 x0, .float .f32 x1]⟩], [] => some (.agg #[.float .f32 ((r16 x0 x1).1), .float .f32 ((r16 x0 x1).2)], st0)
 | _, _ => T0 16 args s
def a16 (x0 : Nat) (x1 : Nat) (p : Nat × Nat) : Res := some (.agg #[.float .f32 (p.1), .float .f32 (p.2)], st0)
def t16 (x0 : Nat) (x1 : Nat) : Res :=
 (some (.agg #[.float .f32 x0, .float .f32 x1], st0))
theorem e16 (x0 : Nat) (x1 : Nat) : evFn Try.prog ext T0 200 Try.f16 [.agg #[.float .f32 x0, .float .f32 x1]] st0 = some (.agg #[.float .f32 ((r16 x0 x1).1), .float .f32 ((r16 x0 x1).2)], st0) :=
 (show evFn Try.prog ext T0 200 Try.f16 [.agg #[.float .f32 x0, .float .f32 x1]] st0 = t16 x0 x1 from by kernel_rfl).trans
 ((show t16 x0 x1 = a16 x0 x1 (r16 x0 x1) from rfl))
def T1 : CallF := addF T0 16 s16
theorem ok1 : CfOk Try.prog T1 := by
  refine cfOk_add ok0 fun args s r s' h1 h2 h3 => ?_
  unfold s16 at h3; split at h3
  · rename_i h; exact callOk ok0 Try.func16 h1 h2 h (e16 _ _) rfl h3
  · exact ok0 _ _ _ _ _ h1 h2 h3

/-- spec.l05Ok -/
def r45 (x0 : Nat) (x1 : Nat) : Bool :=
 ((flt .f32 x0 x1 || feq .f32 x0 x1))
def s45 (args : List Value) (s : St) : Res :=
 match args, s.h with
 | [.agg ⟨[.float .f32 x0, .float .f32 x1]⟩], [] => some (.bool (r45 x0 x1), st0)
 | _, _ => T1 45 args s
def a45 (x0 : Nat) (x1 : Nat) (p : Bool) : Res := some (.bool p, st0)
def t45 (x0 : Nat) (x1 : Nat) : Res :=
 (some (.bool (flt .f32 x0 x1 || feq .f32 x0 x1), st0))
theorem e45 (x0 : Nat) (x1 : Nat) : evFn Try.prog ext T1 200 Try.f45 [.agg #[.float .f32 x0, .float .f32 x1]] st0 = some (.bool (r45 x0 x1), st0) :=
 (show evFn Try.prog ext T1 200 Try.f45 [.agg #[.float .f32 x0, .float .f32 x1]] st0 = t45 x0 x1 from by kernel_rfl).trans
 ((show t45 x0 x1 = a45 x0 x1 (r45 x0 x1) from rfl))
def T2 : CallF := addF T1 45 s45
theorem ok2 : CfOk Try.prog T2 := by
  refine cfOk_add ok1 fun args s r s' h1 h2 h3 => ?_
  unfold s45 at h3; split at h3
  · rename_i h; exact callOk ok1 Try.func45 h1 h2 h (e45 _ _) rfl h3
  · exact ok1 _ _ _ _ _ h1 h2 h3

/-- spec.ValidSpan -/
def r15 (x0 : Nat) (x1 : Nat) : Bool :=
 ((r45 x0 x1))
def s15 (args : List Value) (s : St) : Res :=
 match args, s.h with
 | [.agg ⟨[.float .f32 x0, .float .f32 x1]⟩], [] => some (.bool (r15 x0 x1), st0)
 | _, _ => T2 15 args s
def a15 (x0 : Nat) (x1 : Nat) (p : Bool) : Res := some (.bool p, st0)
def t15 (x0 : Nat) (x1 : Nat) : Res :=
 (some (.bool (r45 x0 x1), st0))
theorem e15 (x0 : Nat) (x1 : Nat) : evFn Try.prog ext T2 200 Try.f15 [.agg #[.float .f32 x0, .float .f32 x1]] st0 = some (.bool (r15 x0 x1), st0) :=
 (show evFn Try.prog ext T2 200 Try.f15 [.agg #[.float .f32 x0, .float .f32 x1]] st0 = t15 x0 x1 from by kernel_rfl).trans
 ((show t15 x0 x1 = a15 x0 x1 (r15 x0 x1) from rfl))
def T3 : CallF := addF T2 15 s15
theorem ok3 : CfOk Try.prog T3 := by
  refine cfOk_add ok2 fun args s r s' h1 h2 h3 => ?_
  unfold s15 at h3; split at h3
  · rename_i h; exact callOk ok2 Try.func15 h1 h2 h (e15 _ _) rfl h3
  · exact ok2 _ _ _ _ _ h1 h2 h3

/-- impl.ValidSpan -/
def r17 (x0 : Nat) (x1 : Nat) : Bool :=
 ((flt .f32 x0 x1 || feq .f32 x0 x1))
def s17 (args : List Value) (s : St) : Res :=
 match args, s.h with
 | [.agg ⟨[.float .f32 x0, .float .f32 x1]⟩], [] => some (.bool (r17 x0 x1), st0)
 | _, _ => T3 17 args s
def a17 (x0 : Nat) (x1 : Nat) (p : Bool) : Res := some (.bool p, st0)
def t17 (x0 : Nat) (x1 : Nat) : Res :=
 (some (.bool (flt .f32 x0 x1 || feq .f32 x0 x1), st0))
theorem e17 (x0 : Nat) (x1 : Nat) : evFn Try.prog ext T3 200 Try.f17 [.agg #[.float .f32 x0, .float .f32 x1]] st0 = some (.bool (r17 x0 x1), st0) :=
 (show evFn Try.prog ext T3 200 Try.f17 [.agg #[.float .f32 x0, .float .f32 x1]] st0 = t17 x0 x1 from by kernel_rfl).trans
 ((show t17 x0 x1 = a17 x0 x1 (r17 x0 x1) from rfl))
def T4 : CallF := addF T3 17 s17
theorem ok4 : CfOk Try.prog T4 := by
  refine cfOk_add ok3 fun args s r s' h1 h2 h3 => ?_
  unfold s17 at h3; split at h3
  · rename_i h; exact callOk ok3 Try.func17 h1 h2 h (e17 _ _) rfl h3
  · exact ok3 _ _ _ _ _ h1 h2 h3

/-- laws.FnExactValidSpan -/
def r3 (x0 : Nat) (x1 : Nat) : Bool :=
 cond (!((r17 ((r16 x0 x1).1) ((r16 x0 x1).2)) == (r15 ((r16 x0 x1).1) ((r16 x0 x1).2))))
  (false)
  (true)
def s3 (args : List Value) (s : St) : Res :=
 match args, s.h with
 | [.agg ⟨[.float .f32 x0, .float .f32 x1]⟩], [] => some (.bool (r3 x0 x1), st0)
 | _, _ => T4 3 args s
def a3 (x0 : Nat) (x1 : Nat) (p : Bool) : Res := some (.bool p, st0)
def t3 (x0 : Nat) (x1 : Nat) : Res :=
 (cond (!((r17 ((r16 x0 x1).1) ((r16 x0 x1).2)) == (r15 ((r16 x0 x1).1) ((r16 x0 x1).2))))
 (some (.bool false, st0))
 (some (.bool true, st0)))
theorem e3 (x0 : Nat) (x1 : Nat) : evFn Try.prog ext T4 200 Try.f3 [.agg #[.float .f32 x0, .float .f32 x1]] st0 = some (.bool (r3 x0 x1), st0) :=
 (show evFn Try.prog ext T4 200 Try.f3 [.agg #[.float .f32 x0, .float .f32 x1]] st0 = t3 x0 x1 from by kernel_rfl).trans
 ((show t3 x0 x1 = a3 x0 x1 (r3 x0 x1) from (cond_app (a3 x0 x1) _ rfl rfl)))
def T5 : CallF := addF T4 3 s3
theorem ok5 : CfOk Try.prog T5 := by
  refine cfOk_add ok4 fun args s r s' h1 h2 h3 => ?_
  unfold s3 at h3; split at h3
  · rename_i h; exact callOk ok4 Try.func3 h1 h2 h (e3 _ _) rfl h3
  · exact ok4 _ _ _ _ _ h1 h2 h3
end Go.Proofs.Ytpeehlgiddbfpaa
