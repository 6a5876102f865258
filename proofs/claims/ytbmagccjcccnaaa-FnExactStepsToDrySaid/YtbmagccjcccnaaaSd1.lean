/- What the functions that the statements reach answer, part 1. -/
import Derived.Test.YtbmagccjcccnaaaA23
import Derived.KernelRfl
import Derived.Test.YtbmagccjcccnaaaChecked
namespace Go.Proofs.Ytbmagccjcccnaaa
open Go.Ab
set_option maxHeartbeats 4000000
set_option maxRecDepth 100000

def ext : FuncId → Option Ext := fun g => (cond (Nat.beq g 113) (some .f32bits) (cond (Nat.beq g 128) (some .f64from) (cond (Nat.beq g 129) (some .f64bits) none)))
theorem ext_case {g : FuncId} {e : Ext} (h : ext g = some e) : g = 113 ∧ e = .f32bits ∨ g = 128 ∧ e = .f64from ∨ g = 129 ∧ e = .f64bits := by
  unfold ext at h
  cases h0 : Nat.beq g 113 with
  | true => rw [h0] at h; cases h; exact .inl ⟨Nat.eq_of_beq_eq_true h0, rfl⟩
  | false =>
    rw [h0] at h
    cases h1 : Nat.beq g 128 with
    | true => rw [h1] at h; cases h; exact .inr (.inl ⟨Nat.eq_of_beq_eq_true h1, rfl⟩)
    | false =>
      rw [h1] at h
      cases h2 : Nat.beq g 129 with
      | true => rw [h2] at h; cases h; exact .inr (.inr (⟨Nat.eq_of_beq_eq_true h2, rfl⟩))
      | false =>
        rw [h2] at h
        cases h
theorem extOk : ExtOk Try.prog ext := by
  intro g e h
  rcases ext_case h with ⟨rfl, rfl⟩ | ⟨rfl, rfl⟩ | ⟨rfl, rfl⟩
  · exact ⟨Try.f113, Try.func113, by kernel_rfl, by kernel_rfl, by kernel_rfl, by kernel_rfl⟩
  · exact ⟨Try.f128, Try.func128, by kernel_rfl, by kernel_rfl, by kernel_rfl, by kernel_rfl⟩
  · exact ⟨Try.f129, Try.func129, by kernel_rfl, by kernel_rfl, by kernel_rfl, by kernel_rfl⟩
theorem mixed : Try.prog.follows .mixedOrders = true := by kernel_rfl
theorem callOk {cf : CallF} (hcf : CfOk Try.prog cf) {lf : LoopT} {N : Nat} {f : FuncId} {fn : Func} (hf : Try.prog.funcs[f]? = some fn) {args : List Value} {s : St} {l : List Blk} {n : Nat} {L : List (Bool × Value × St)} {r' : Value} {s' : St} (h1 : s.lo = s.h.length) (h2 : s.wr = []) (h : s.h = l) (hl : ∀ c, fn.body = some c → LfOk Try.prog lf (loopsOf c)) (he : evFn Try.prog ext cf lf N fn args ⟨l, n, []⟩ = firstT L) (hn : n = l.length) (h3 : firstT L = some (r', s')) : CallsOK Try.prog f args s r' s' :=
  call_ok extOk mixed hcf hf h1 h2 h hl he hn h3
def T0 : CallF := noF
theorem ok0 : CfOk Try.prog T0 := cfOk_no _

/-- laws.toFloat32A6 -/
noncomputable def r59 (x0 x1 x2 x3 x4 x5 : Nat) : Unit :=
 ()
noncomputable def a59 (x0 x1 x2 x3 x4 x5 : Nat) (p : Unit) : Res := firstT [(true, .agg #[.float .f32 x0, .float .f32 x1, .float .f32 x2, .float .f32 x3, .float .f32 x4, .float .f32 x5], st0)]
noncomputable def w59 (x0 x1 x2 x3 x4 x5 : Nat) : Res :=
 (a59 x0 x1 x2 x3 x4 x5 ())
set_option maxRecDepth 100000 in
set_option maxHeartbeats 4000000 in
theorem e59 (x0 x1 x2 x3 x4 x5 : Nat) : evFn Try.prog ext T0 noL 200 Try.f59 [.agg #[.float .f32 x0, .float .f32 x1, .float .f32 x2, .float .f32 x3, .float .f32 x4, .float .f32 x5]] st0 = firstT [(true, .agg #[.float .f32 x0, .float .f32 x1, .float .f32 x2, .float .f32 x3, .float .f32 x4, .float .f32 x5], st0)] :=
 (show evFn Try.prog ext T0 noL 200 Try.f59 [.agg #[.float .f32 x0, .float .f32 x1, .float .f32 x2, .float .f32 x3, .float .f32 x4, .float .f32 x5]] st0 = w59 x0 x1 x2 x3 x4 x5 from by kernel_rfl).trans
 (show w59 x0 x1 x2 x3 x4 x5 = a59 x0 x1 x2 x3 x4 x5 (r59 x0 x1 x2 x3 x4 x5) from by unfold w59 r59; exact rfl)
noncomputable def s59 (args : List Value) (s : St) : List (Bool × Value × St) :=
 match args, s.h with
 | [.agg ⟨[.float .f32 x0, .float .f32 x1, .float .f32 x2, .float .f32 x3, .float .f32 x4, .float .f32 x5]⟩], [] => [(true, .agg #[.float .f32 x0, .float .f32 x1, .float .f32 x2, .float .f32 x3, .float .f32 x4, .float .f32 x5], st0)]
 | _, _ => T0 59 args s
noncomputable def T1 : CallF := addF T0 59 s59
set_option maxRecDepth 100000 in
set_option maxHeartbeats 4000000 in
theorem ok1 : CfOk Try.prog T1 := by
  refine cfOk_add ok0 fun args s r s' h1 h2 h3 => ?_
  unfold s59 at h3; split at h3
  · rename_i h; exact callOk ok0 Try.func59 h1 h2 h (lfOkF_no _ _).body (e59 _ _ _ _ _ _) rfl h3
  · exact ok0 _ _ _ _ _ h1 h2 h3

/-- laws.toWood -/
noncomputable def r12 (x0 x1 x2 x3 x4 x5 x6 x7 x8 x9 x10 x11 x12 x13 x14 x15 x16 x17 : Nat) : Unit :=
 ()
noncomputable def a12 (x0 x1 x2 x3 x4 x5 x6 x7 x8 x9 x10 x11 x12 x13 x14 x15 x16 x17 : Nat) (p : Unit) : Res := firstT [(true, .agg #[.float .f32 x0, .float .f32 x1, .float .f32 x2, .float .f32 x3, .float .f32 x4, .float .f32 x5, .float .f32 x6, .float .f32 x7, .float .f32 x8, .float .f32 x9, .float .f32 x10, .float .f32 x11, .float .f32 x12, .float .f32 x13, .float .f32 x14, .float .f32 x15, .float .f32 x16, .float .f32 x17], st0)]
noncomputable def w12 (x0 x1 x2 x3 x4 x5 x6 x7 x8 x9 x10 x11 x12 x13 x14 x15 x16 x17 : Nat) : Res :=
 (a12 x0 x1 x2 x3 x4 x5 x6 x7 x8 x9 x10 x11 x12 x13 x14 x15 x16 x17 ())
set_option maxRecDepth 100000 in
set_option maxHeartbeats 4000000 in
theorem e12 (x0 x1 x2 x3 x4 x5 x6 x7 x8 x9 x10 x11 x12 x13 x14 x15 x16 x17 : Nat) : evFn Try.prog ext T1 noL 200 Try.f12 [.agg #[.float .f32 x0, .float .f32 x1, .float .f32 x2, .float .f32 x3, .float .f32 x4, .float .f32 x5, .float .f32 x6, .float .f32 x7, .float .f32 x8, .float .f32 x9, .float .f32 x10, .float .f32 x11, .float .f32 x12, .float .f32 x13, .float .f32 x14, .float .f32 x15, .float .f32 x16, .float .f32 x17]] st0 = firstT [(true, .agg #[.float .f32 x0, .float .f32 x1, .float .f32 x2, .float .f32 x3, .float .f32 x4, .float .f32 x5, .float .f32 x6, .float .f32 x7, .float .f32 x8, .float .f32 x9, .float .f32 x10, .float .f32 x11, .float .f32 x12, .float .f32 x13, .float .f32 x14, .float .f32 x15, .float .f32 x16, .float .f32 x17], st0)] :=
 (show evFn Try.prog ext T1 noL 200 Try.f12 [.agg #[.float .f32 x0, .float .f32 x1, .float .f32 x2, .float .f32 x3, .float .f32 x4, .float .f32 x5, .float .f32 x6, .float .f32 x7, .float .f32 x8, .float .f32 x9, .float .f32 x10, .float .f32 x11, .float .f32 x12, .float .f32 x13, .float .f32 x14, .float .f32 x15, .float .f32 x16, .float .f32 x17]] st0 = w12 x0 x1 x2 x3 x4 x5 x6 x7 x8 x9 x10 x11 x12 x13 x14 x15 x16 x17 from by kernel_rfl).trans
 (show w12 x0 x1 x2 x3 x4 x5 x6 x7 x8 x9 x10 x11 x12 x13 x14 x15 x16 x17 = a12 x0 x1 x2 x3 x4 x5 x6 x7 x8 x9 x10 x11 x12 x13 x14 x15 x16 x17 (r12 x0 x1 x2 x3 x4 x5 x6 x7 x8 x9 x10 x11 x12 x13 x14 x15 x16 x17) from by unfold w12 r12; exact rfl)
noncomputable def s12 (args : List Value) (s : St) : List (Bool × Value × St) :=
 match args, s.h with
 | [.agg ⟨[.float .f32 x0, .float .f32 x1, .float .f32 x2, .float .f32 x3, .float .f32 x4, .float .f32 x5, .float .f32 x6, .float .f32 x7, .float .f32 x8, .float .f32 x9, .float .f32 x10, .float .f32 x11, .float .f32 x12, .float .f32 x13, .float .f32 x14, .float .f32 x15, .float .f32 x16, .float .f32 x17]⟩], [] => [(true, .agg #[.float .f32 x0, .float .f32 x1, .float .f32 x2, .float .f32 x3, .float .f32 x4, .float .f32 x5, .float .f32 x6, .float .f32 x7, .float .f32 x8, .float .f32 x9, .float .f32 x10, .float .f32 x11, .float .f32 x12, .float .f32 x13, .float .f32 x14, .float .f32 x15, .float .f32 x16, .float .f32 x17], st0)]
 | _, _ => T1 12 args s
noncomputable def T2 : CallF := addF T1 12 s12
set_option maxRecDepth 100000 in
set_option maxHeartbeats 4000000 in
theorem ok2 : CfOk Try.prog T2 := by
  refine cfOk_add ok1 fun args s r s' h1 h2 h3 => ?_
  unfold s12 at h3; split at h3
  · rename_i h; exact callOk ok1 Try.func12 h1 h2 h (lfOkF_no _ _).body (e12 _ _ _ _ _ _ _ _ _ _ _ _ _ _ _ _ _ _) rfl h3
  · exact ok1 _ _ _ _ _ h1 h2 h3

/-- spec.l01Finite -/
noncomputable def r102 (x0 : Nat) : Bool :=
 ((feq .f32 (fsub .f32 x0 x0) 0))
noncomputable def a102 (x0 : Nat) (p : Bool) : Res := firstT [(true, .bool p, st0)]
noncomputable def w102 (x0 : Nat) : Res :=
 (a102 x0 ((feq .f32 (fsub .f32 x0 x0) 0)))
set_option maxRecDepth 100000 in
set_option maxHeartbeats 4000000 in
theorem e102 (x0 : Nat) : evFn Try.prog ext T2 noL 200 Try.f102 [.float .f32 x0] st0 = firstT [(true, .bool (r102 x0), st0)] :=
 (show evFn Try.prog ext T2 noL 200 Try.f102 [.float .f32 x0] st0 = w102 x0 from by kernel_rfl).trans
 (show w102 x0 = a102 x0 (r102 x0) from by unfold w102 r102; exact rfl)
noncomputable def s102 (args : List Value) (s : St) : List (Bool × Value × St) :=
 match args, s.h with
 | [.float .f32 x0], [] => [(true, .bool (r102 x0), st0)]
 | _, _ => T2 102 args s
noncomputable def T3 : CallF := addF T2 102 s102
set_option maxRecDepth 100000 in
set_option maxHeartbeats 4000000 in
theorem ok3 : CfOk Try.prog T3 := by
  refine cfOk_add ok2 fun args s r s' h1 h2 h3 => ?_
  unfold s102 at h3; split at h3
  · rename_i h; exact callOk ok2 Try.func102 h1 h2 h (lfOkF_no _ _).body (e102 _) rfl h3
  · exact ok2 _ _ _ _ _ h1 h2 h3

/-- spec.l01Amount -/
noncomputable def r100 (x0 : Nat) : Bool :=
 cond (r102 x0)
  (cond (fgt .f32 x0 0)
  (true)
  (cond (!isN .f32 x0)
  (((((x0 : Nat) : Int) : Int) == 0))
  (false)))
  (false)
noncomputable def a100 (x0 : Nat) (p : Bool) : Res := firstT [(true, .bool p, st0)]
noncomputable def w100 (x0 : Nat) : Res :=
 (cond (r102 x0)
 (cond (fgt .f32 x0 0)
  (a100 x0 (true))
  (cond (!isN .f32 x0)
  (a100 x0 (((((x0 : Nat) : Int) : Int) == 0)))
  (a100 x0 (false))))
 (a100 x0 (false)))
set_option maxRecDepth 100000 in
set_option maxHeartbeats 4000000 in
theorem e100 (x0 : Nat) : evFn Try.prog ext T3 noL 200 Try.f100 [.float .f32 x0] st0 = firstT [(true, .bool (r100 x0), st0)] :=
 (show evFn Try.prog ext T3 noL 200 Try.f100 [.float .f32 x0] st0 = w100 x0 from by kernel_rfl).trans
 (show w100 x0 = a100 x0 (r100 x0) from by unfold w100 r100; exact (cond_app (a100 x0) _ (cond_app (a100 x0) _ rfl (cond_app (a100 x0) _ rfl rfl)) rfl))
noncomputable def s100 (args : List Value) (s : St) : List (Bool × Value × St) :=
 match args, s.h with
 | [.float .f32 x0], [] => [(true, .bool (r100 x0), st0)]
 | _, _ => T3 100 args s
noncomputable def T4 : CallF := addF T3 100 s100
set_option maxRecDepth 100000 in
set_option maxHeartbeats 4000000 in
theorem ok4 : CfOk Try.prog T4 := by
  refine cfOk_add ok3 fun args s r s' h1 h2 h3 => ?_
  unfold s100 at h3; split at h3
  · rename_i h; exact callOk ok3 Try.func100 h1 h2 h (lfOkF_no _ _).body (e100 _) rfl h3
  · exact ok3 _ _ _ _ _ h1 h2 h3

/-- spec.l01Ok -/
noncomputable def r57 (x0 x1 x2 x3 x4 x5 x6 x7 x8 x9 x10 x11 x12 x13 x14 x15 x16 x17 : Nat) : Bool :=
 cond (!(r100 x0))
  (false)
  (cond (fgt .f32 x0 1092616192)
  (false)
  (cond (!(r100 x12))
  (false)
  (cond (fgt .f32 x12 1092616192)
  (false)
  (cond (fgt .f32 x6 3262119936 || feq .f32 x6 3262119936)
  (cond (!(flt .f32 x6 1153138688 || feq .f32 x6 1153138688))
  (false)
  (cond (!(r100 x1))
  (false)
  (cond (fgt .f32 x1 1092616192)
  (false)
  (cond (!(r100 x13))
  (false)
  (cond (fgt .f32 x13 1092616192)
  (false)
  (cond (fgt .f32 x7 3262119936 || feq .f32 x7 3262119936)
  (cond (!(flt .f32 x7 1153138688 || feq .f32 x7 1153138688))
  (false)
  (cond (!(r100 x2))
  (false)
  (cond (fgt .f32 x2 1092616192)
  (false)
  (cond (!(r100 x14))
  (false)
  (cond (fgt .f32 x14 1092616192)
  (false)
  (cond (fgt .f32 x8 3262119936 || feq .f32 x8 3262119936)
  (cond (!(flt .f32 x8 1153138688 || feq .f32 x8 1153138688))
  (false)
  (cond (!(r100 x3))
  (false)
  (cond (fgt .f32 x3 1092616192)
  (false)
  (cond (!(r100 x15))
  (false)
  (cond (fgt .f32 x15 1092616192)
  (false)
  (cond (fgt .f32 x9 3262119936 || feq .f32 x9 3262119936)
  (cond (!(flt .f32 x9 1153138688 || feq .f32 x9 1153138688))
  (false)
  (cond (!(r100 x4))
  (false)
  (cond (fgt .f32 x4 1092616192)
  (false)
  (cond (!(r100 x16))
  (false)
  (cond (fgt .f32 x16 1092616192)
  (false)
  (cond (fgt .f32 x10 3262119936 || feq .f32 x10 3262119936)
  (cond (!(flt .f32 x10 1153138688 || feq .f32 x10 1153138688))
  (false)
  (cond (!(r100 x5))
  (false)
  (cond (fgt .f32 x5 1092616192)
  (false)
  (cond (!(r100 x17))
  (false)
  (cond (fgt .f32 x17 1092616192)
  (false)
  (cond (fgt .f32 x11 3262119936 || feq .f32 x11 3262119936)
  (cond (!(flt .f32 x11 1153138688 || feq .f32 x11 1153138688))
  (false)
  (true))
  (false)))))))
  (false)))))))
  (false)))))))
  (false)))))))
  (false)))))))
  (false)))))
noncomputable def a57 (x0 x1 x2 x3 x4 x5 x6 x7 x8 x9 x10 x11 x12 x13 x14 x15 x16 x17 : Nat) (p : Bool) : Res := firstT [(true, .bool p, ⟨[⟨true, (some (.cells [.float .f32 x0, .float .f32 x1, .float .f32 x2, .float .f32 x3, .float .f32 x4, .float .f32 x5, .float .f32 x6, .float .f32 x7, .float .f32 x8, .float .f32 x9, .float .f32 x10, .float .f32 x11, .float .f32 x12, .float .f32 x13, .float .f32 x14, .float .f32 x15, .float .f32 x16, .float .f32 x17]))⟩], 1, []⟩)]
noncomputable def w57 (x0 x1 x2 x3 x4 x5 x6 x7 x8 x9 x10 x11 x12 x13 x14 x15 x16 x17 : Nat) : Res :=
 (cond (!(r100 x0))
 (a57 x0 x1 x2 x3 x4 x5 x6 x7 x8 x9 x10 x11 x12 x13 x14 x15 x16 x17 (false))
 (cond (fgt .f32 x0 1092616192)
  (a57 x0 x1 x2 x3 x4 x5 x6 x7 x8 x9 x10 x11 x12 x13 x14 x15 x16 x17 (false))
  (cond (!(r100 x12))
  (a57 x0 x1 x2 x3 x4 x5 x6 x7 x8 x9 x10 x11 x12 x13 x14 x15 x16 x17 (false))
  (cond (fgt .f32 x12 1092616192)
  (a57 x0 x1 x2 x3 x4 x5 x6 x7 x8 x9 x10 x11 x12 x13 x14 x15 x16 x17 (false))
  (cond (fgt .f32 x6 3262119936 || feq .f32 x6 3262119936)
  (cond (!(flt .f32 x6 1153138688 || feq .f32 x6 1153138688))
  (a57 x0 x1 x2 x3 x4 x5 x6 x7 x8 x9 x10 x11 x12 x13 x14 x15 x16 x17 (false))
  (cond (!(r100 x1))
  (a57 x0 x1 x2 x3 x4 x5 x6 x7 x8 x9 x10 x11 x12 x13 x14 x15 x16 x17 (false))
  (cond (fgt .f32 x1 1092616192)
  (a57 x0 x1 x2 x3 x4 x5 x6 x7 x8 x9 x10 x11 x12 x13 x14 x15 x16 x17 (false))
  (cond (!(r100 x13))
  (a57 x0 x1 x2 x3 x4 x5 x6 x7 x8 x9 x10 x11 x12 x13 x14 x15 x16 x17 (false))
  (cond (fgt .f32 x13 1092616192)
  (a57 x0 x1 x2 x3 x4 x5 x6 x7 x8 x9 x10 x11 x12 x13 x14 x15 x16 x17 (false))
  (cond (fgt .f32 x7 3262119936 || feq .f32 x7 3262119936)
  (cond (!(flt .f32 x7 1153138688 || feq .f32 x7 1153138688))
  (a57 x0 x1 x2 x3 x4 x5 x6 x7 x8 x9 x10 x11 x12 x13 x14 x15 x16 x17 (false))
  (cond (!(r100 x2))
  (a57 x0 x1 x2 x3 x4 x5 x6 x7 x8 x9 x10 x11 x12 x13 x14 x15 x16 x17 (false))
  (cond (fgt .f32 x2 1092616192)
  (a57 x0 x1 x2 x3 x4 x5 x6 x7 x8 x9 x10 x11 x12 x13 x14 x15 x16 x17 (false))
  (cond (!(r100 x14))
  (a57 x0 x1 x2 x3 x4 x5 x6 x7 x8 x9 x10 x11 x12 x13 x14 x15 x16 x17 (false))
  (cond (fgt .f32 x14 1092616192)
  (a57 x0 x1 x2 x3 x4 x5 x6 x7 x8 x9 x10 x11 x12 x13 x14 x15 x16 x17 (false))
  (cond (fgt .f32 x8 3262119936 || feq .f32 x8 3262119936)
  (cond (!(flt .f32 x8 1153138688 || feq .f32 x8 1153138688))
  (a57 x0 x1 x2 x3 x4 x5 x6 x7 x8 x9 x10 x11 x12 x13 x14 x15 x16 x17 (false))
  (cond (!(r100 x3))
  (a57 x0 x1 x2 x3 x4 x5 x6 x7 x8 x9 x10 x11 x12 x13 x14 x15 x16 x17 (false))
  (cond (fgt .f32 x3 1092616192)
  (a57 x0 x1 x2 x3 x4 x5 x6 x7 x8 x9 x10 x11 x12 x13 x14 x15 x16 x17 (false))
  (cond (!(r100 x15))
  (a57 x0 x1 x2 x3 x4 x5 x6 x7 x8 x9 x10 x11 x12 x13 x14 x15 x16 x17 (false))
  (cond (fgt .f32 x15 1092616192)
  (a57 x0 x1 x2 x3 x4 x5 x6 x7 x8 x9 x10 x11 x12 x13 x14 x15 x16 x17 (false))
  (cond (fgt .f32 x9 3262119936 || feq .f32 x9 3262119936)
  (cond (!(flt .f32 x9 1153138688 || feq .f32 x9 1153138688))
  (a57 x0 x1 x2 x3 x4 x5 x6 x7 x8 x9 x10 x11 x12 x13 x14 x15 x16 x17 (false))
  (cond (!(r100 x4))
  (a57 x0 x1 x2 x3 x4 x5 x6 x7 x8 x9 x10 x11 x12 x13 x14 x15 x16 x17 (false))
  (cond (fgt .f32 x4 1092616192)
  (a57 x0 x1 x2 x3 x4 x5 x6 x7 x8 x9 x10 x11 x12 x13 x14 x15 x16 x17 (false))
  (cond (!(r100 x16))
  (a57 x0 x1 x2 x3 x4 x5 x6 x7 x8 x9 x10 x11 x12 x13 x14 x15 x16 x17 (false))
  (cond (fgt .f32 x16 1092616192)
  (a57 x0 x1 x2 x3 x4 x5 x6 x7 x8 x9 x10 x11 x12 x13 x14 x15 x16 x17 (false))
  (cond (fgt .f32 x10 3262119936 || feq .f32 x10 3262119936)
  (cond (!(flt .f32 x10 1153138688 || feq .f32 x10 1153138688))
  (a57 x0 x1 x2 x3 x4 x5 x6 x7 x8 x9 x10 x11 x12 x13 x14 x15 x16 x17 (false))
  (cond (!(r100 x5))
  (a57 x0 x1 x2 x3 x4 x5 x6 x7 x8 x9 x10 x11 x12 x13 x14 x15 x16 x17 (false))
  (cond (fgt .f32 x5 1092616192)
  (a57 x0 x1 x2 x3 x4 x5 x6 x7 x8 x9 x10 x11 x12 x13 x14 x15 x16 x17 (false))
  (cond (!(r100 x17))
  (a57 x0 x1 x2 x3 x4 x5 x6 x7 x8 x9 x10 x11 x12 x13 x14 x15 x16 x17 (false))
  (cond (fgt .f32 x17 1092616192)
  (a57 x0 x1 x2 x3 x4 x5 x6 x7 x8 x9 x10 x11 x12 x13 x14 x15 x16 x17 (false))
  (cond (fgt .f32 x11 3262119936 || feq .f32 x11 3262119936)
  (cond (!(flt .f32 x11 1153138688 || feq .f32 x11 1153138688))
  (a57 x0 x1 x2 x3 x4 x5 x6 x7 x8 x9 x10 x11 x12 x13 x14 x15 x16 x17 (false))
  (a57 x0 x1 x2 x3 x4 x5 x6 x7 x8 x9 x10 x11 x12 x13 x14 x15 x16 x17 (true)))
  (a57 x0 x1 x2 x3 x4 x5 x6 x7 x8 x9 x10 x11 x12 x13 x14 x15 x16 x17 (false))))))))
  (a57 x0 x1 x2 x3 x4 x5 x6 x7 x8 x9 x10 x11 x12 x13 x14 x15 x16 x17 (false))))))))
  (a57 x0 x1 x2 x3 x4 x5 x6 x7 x8 x9 x10 x11 x12 x13 x14 x15 x16 x17 (false))))))))
  (a57 x0 x1 x2 x3 x4 x5 x6 x7 x8 x9 x10 x11 x12 x13 x14 x15 x16 x17 (false))))))))
  (a57 x0 x1 x2 x3 x4 x5 x6 x7 x8 x9 x10 x11 x12 x13 x14 x15 x16 x17 (false))))))))
  (a57 x0 x1 x2 x3 x4 x5 x6 x7 x8 x9 x10 x11 x12 x13 x14 x15 x16 x17 (false)))))))
set_option maxRecDepth 100000 in
set_option maxHeartbeats 4000000 in
theorem e57 (x0 x1 x2 x3 x4 x5 x6 x7 x8 x9 x10 x11 x12 x13 x14 x15 x16 x17 : Nat) : evFn Try.prog ext T4 noL 200 Try.f57 [.pointer (some ⟨0, 0, some 0⟩)] ⟨[⟨true, (some (.cells [.float .f32 x0, .float .f32 x1, .float .f32 x2, .float .f32 x3, .float .f32 x4, .float .f32 x5, .float .f32 x6, .float .f32 x7, .float .f32 x8, .float .f32 x9, .float .f32 x10, .float .f32 x11, .float .f32 x12, .float .f32 x13, .float .f32 x14, .float .f32 x15, .float .f32 x16, .float .f32 x17]))⟩], 1, []⟩ = firstT [(true, .bool (r57 x0 x1 x2 x3 x4 x5 x6 x7 x8 x9 x10 x11 x12 x13 x14 x15 x16 x17), ⟨[⟨true, (some (.cells [.float .f32 x0, .float .f32 x1, .float .f32 x2, .float .f32 x3, .float .f32 x4, .float .f32 x5, .float .f32 x6, .float .f32 x7, .float .f32 x8, .float .f32 x9, .float .f32 x10, .float .f32 x11, .float .f32 x12, .float .f32 x13, .float .f32 x14, .float .f32 x15, .float .f32 x16, .float .f32 x17]))⟩], 1, []⟩)] :=
 (show evFn Try.prog ext T4 noL 200 Try.f57 [.pointer (some ⟨0, 0, some 0⟩)] ⟨[⟨true, (some (.cells [.float .f32 x0, .float .f32 x1, .float .f32 x2, .float .f32 x3, .float .f32 x4, .float .f32 x5, .float .f32 x6, .float .f32 x7, .float .f32 x8, .float .f32 x9, .float .f32 x10, .float .f32 x11, .float .f32 x12, .float .f32 x13, .float .f32 x14, .float .f32 x15, .float .f32 x16, .float .f32 x17]))⟩], 1, []⟩ = w57 x0 x1 x2 x3 x4 x5 x6 x7 x8 x9 x10 x11 x12 x13 x14 x15 x16 x17 from by kernel_rfl).trans
 (show w57 x0 x1 x2 x3 x4 x5 x6 x7 x8 x9 x10 x11 x12 x13 x14 x15 x16 x17 = a57 x0 x1 x2 x3 x4 x5 x6 x7 x8 x9 x10 x11 x12 x13 x14 x15 x16 x17 (r57 x0 x1 x2 x3 x4 x5 x6 x7 x8 x9 x10 x11 x12 x13 x14 x15 x16 x17) from by unfold w57 r57; exact (cond_app (a57 x0 x1 x2 x3 x4 x5 x6 x7 x8 x9 x10 x11 x12 x13 x14 x15 x16 x17) _ rfl (cond_app (a57 x0 x1 x2 x3 x4 x5 x6 x7 x8 x9 x10 x11 x12 x13 x14 x15 x16 x17) _ rfl (cond_app (a57 x0 x1 x2 x3 x4 x5 x6 x7 x8 x9 x10 x11 x12 x13 x14 x15 x16 x17) _ rfl (cond_app (a57 x0 x1 x2 x3 x4 x5 x6 x7 x8 x9 x10 x11 x12 x13 x14 x15 x16 x17) _ rfl (cond_app (a57 x0 x1 x2 x3 x4 x5 x6 x7 x8 x9 x10 x11 x12 x13 x14 x15 x16 x17) _ (cond_app (a57 x0 x1 x2 x3 x4 x5 x6 x7 x8 x9 x10 x11 x12 x13 x14 x15 x16 x17) _ rfl (cond_app (a57 x0 x1 x2 x3 x4 x5 x6 x7 x8 x9 x10 x11 x12 x13 x14 x15 x16 x17) _ rfl (cond_app (a57 x0 x1 x2 x3 x4 x5 x6 x7 x8 x9 x10 x11 x12 x13 x14 x15 x16 x17) _ rfl (cond_app (a57 x0 x1 x2 x3 x4 x5 x6 x7 x8 x9 x10 x11 x12 x13 x14 x15 x16 x17) _ rfl (cond_app (a57 x0 x1 x2 x3 x4 x5 x6 x7 x8 x9 x10 x11 x12 x13 x14 x15 x16 x17) _ rfl (cond_app (a57 x0 x1 x2 x3 x4 x5 x6 x7 x8 x9 x10 x11 x12 x13 x14 x15 x16 x17) _ (cond_app (a57 x0 x1 x2 x3 x4 x5 x6 x7 x8 x9 x10 x11 x12 x13 x14 x15 x16 x17) _ rfl (cond_app (a57 x0 x1 x2 x3 x4 x5 x6 x7 x8 x9 x10 x11 x12 x13 x14 x15 x16 x17) _ rfl (cond_app (a57 x0 x1 x2 x3 x4 x5 x6 x7 x8 x9 x10 x11 x12 x13 x14 x15 x16 x17) _ rfl (cond_app (a57 x0 x1 x2 x3 x4 x5 x6 x7 x8 x9 x10 x11 x12 x13 x14 x15 x16 x17) _ rfl (cond_app (a57 x0 x1 x2 x3 x4 x5 x6 x7 x8 x9 x10 x11 x12 x13 x14 x15 x16 x17) _ rfl (cond_app (a57 x0 x1 x2 x3 x4 x5 x6 x7 x8 x9 x10 x11 x12 x13 x14 x15 x16 x17) _ (cond_app (a57 x0 x1 x2 x3 x4 x5 x6 x7 x8 x9 x10 x11 x12 x13 x14 x15 x16 x17) _ rfl (cond_app (a57 x0 x1 x2 x3 x4 x5 x6 x7 x8 x9 x10 x11 x12 x13 x14 x15 x16 x17) _ rfl (cond_app (a57 x0 x1 x2 x3 x4 x5 x6 x7 x8 x9 x10 x11 x12 x13 x14 x15 x16 x17) _ rfl (cond_app (a57 x0 x1 x2 x3 x4 x5 x6 x7 x8 x9 x10 x11 x12 x13 x14 x15 x16 x17) _ rfl (cond_app (a57 x0 x1 x2 x3 x4 x5 x6 x7 x8 x9 x10 x11 x12 x13 x14 x15 x16 x17) _ rfl (cond_app (a57 x0 x1 x2 x3 x4 x5 x6 x7 x8 x9 x10 x11 x12 x13 x14 x15 x16 x17) _ (cond_app (a57 x0 x1 x2 x3 x4 x5 x6 x7 x8 x9 x10 x11 x12 x13 x14 x15 x16 x17) _ rfl (cond_app (a57 x0 x1 x2 x3 x4 x5 x6 x7 x8 x9 x10 x11 x12 x13 x14 x15 x16 x17) _ rfl (cond_app (a57 x0 x1 x2 x3 x4 x5 x6 x7 x8 x9 x10 x11 x12 x13 x14 x15 x16 x17) _ rfl (cond_app (a57 x0 x1 x2 x3 x4 x5 x6 x7 x8 x9 x10 x11 x12 x13 x14 x15 x16 x17) _ rfl (cond_app (a57 x0 x1 x2 x3 x4 x5 x6 x7 x8 x9 x10 x11 x12 x13 x14 x15 x16 x17) _ rfl (cond_app (a57 x0 x1 x2 x3 x4 x5 x6 x7 x8 x9 x10 x11 x12 x13 x14 x15 x16 x17) _ (cond_app (a57 x0 x1 x2 x3 x4 x5 x6 x7 x8 x9 x10 x11 x12 x13 x14 x15 x16 x17) _ rfl (cond_app (a57 x0 x1 x2 x3 x4 x5 x6 x7 x8 x9 x10 x11 x12 x13 x14 x15 x16 x17) _ rfl (cond_app (a57 x0 x1 x2 x3 x4 x5 x6 x7 x8 x9 x10 x11 x12 x13 x14 x15 x16 x17) _ rfl (cond_app (a57 x0 x1 x2 x3 x4 x5 x6 x7 x8 x9 x10 x11 x12 x13 x14 x15 x16 x17) _ rfl (cond_app (a57 x0 x1 x2 x3 x4 x5 x6 x7 x8 x9 x10 x11 x12 x13 x14 x15 x16 x17) _ rfl (cond_app (a57 x0 x1 x2 x3 x4 x5 x6 x7 x8 x9 x10 x11 x12 x13 x14 x15 x16 x17) _ (cond_app (a57 x0 x1 x2 x3 x4 x5 x6 x7 x8 x9 x10 x11 x12 x13 x14 x15 x16 x17) _ rfl rfl) rfl)))))) rfl)))))) rfl)))))) rfl)))))) rfl)))))) rfl))))))
noncomputable def s57 (args : List Value) (s : St) : List (Bool × Value × St) :=
 match args, s.h with
 | [.pointer (some ⟨f0, f1, some f2⟩)], [⟨true, some (.cells [.float .f32 x0, .float .f32 x1, .float .f32 x2, .float .f32 x3, .float .f32 x4, .float .f32 x5, .float .f32 x6, .float .f32 x7, .float .f32 x8, .float .f32 x9, .float .f32 x10, .float .f32 x11, .float .f32 x12, .float .f32 x13, .float .f32 x14, .float .f32 x15, .float .f32 x16, .float .f32 x17])⟩] => if f0 = 0 ∧ f1 = 0 ∧ f2 = 0 then [(true, .bool (r57 x0 x1 x2 x3 x4 x5 x6 x7 x8 x9 x10 x11 x12 x13 x14 x15 x16 x17), ⟨[⟨true, (some (.cells [.float .f32 x0, .float .f32 x1, .float .f32 x2, .float .f32 x3, .float .f32 x4, .float .f32 x5, .float .f32 x6, .float .f32 x7, .float .f32 x8, .float .f32 x9, .float .f32 x10, .float .f32 x11, .float .f32 x12, .float .f32 x13, .float .f32 x14, .float .f32 x15, .float .f32 x16, .float .f32 x17]))⟩], 1, []⟩)] else T4 57 args s
 | _, _ => T4 57 args s
noncomputable def T5 : CallF := addF T4 57 s57
set_option maxRecDepth 100000 in
set_option maxHeartbeats 4000000 in
theorem ok5 : CfOk Try.prog T5 := by
  refine cfOk_add ok4 fun args s r s' h1 h2 h3 => ?_
  unfold s57 at h3; split at h3
  · rename_i h; split at h3
    · rename_i hc; obtain ⟨rfl, rfl, rfl⟩ := hc; exact callOk ok4 Try.func57 h1 h2 h (lfOkF_no _ _).body (e57 _ _ _ _ _ _ _ _ _ _ _ _ _ _ _ _ _ _) rfl h3
    · exact ok4 _ _ _ _ _ h1 h2 h3
  · exact ok4 _ _ _ _ _ h1 h2 h3

/-- spec.l01Share -/
noncomputable def r82 (x0 : Nat) : Bool :=
 cond (r100 x0)
  ((flt .f32 x0 1065353216 || feq .f32 x0 1065353216))
  (false)
noncomputable def a82 (x0 : Nat) (p : Bool) : Res := firstT [(true, .bool p, st0)]
noncomputable def w82 (x0 : Nat) : Res :=
 (cond (r100 x0)
 (a82 x0 ((flt .f32 x0 1065353216 || feq .f32 x0 1065353216)))
 (a82 x0 (false)))
set_option maxRecDepth 100000 in
set_option maxHeartbeats 4000000 in
theorem e82 (x0 : Nat) : evFn Try.prog ext T5 noL 200 Try.f82 [.float .f32 x0] st0 = firstT [(true, .bool (r82 x0), st0)] :=
 (show evFn Try.prog ext T5 noL 200 Try.f82 [.float .f32 x0] st0 = w82 x0 from by kernel_rfl).trans
 (show w82 x0 = a82 x0 (r82 x0) from by unfold w82 r82; exact (cond_app (a82 x0) _ rfl rfl))
noncomputable def s82 (args : List Value) (s : St) : List (Bool × Value × St) :=
 match args, s.h with
 | [.float .f32 x0], [] => [(true, .bool (r82 x0), st0)]
 | _, _ => T5 82 args s
noncomputable def T6 : CallF := addF T5 82 s82
set_option maxRecDepth 100000 in
set_option maxHeartbeats 4000000 in
theorem ok6 : CfOk Try.prog T6 := by
  refine cfOk_add ok5 fun args s r s' h1 h2 h3 => ?_
  unfold s82 at h3; split at h3
  · rename_i h; exact callOk ok5 Try.func82 h1 h2 h (lfOkF_no _ _).body (e82 _) rfl h3
  · exact ok5 _ _ _ _ _ h1 h2 h3

/-- spec.l01Time -/
noncomputable def r79 (x0 : Nat) : Bool :=
 cond (r100 x0)
  ((flt .f32 x0 1065353216 || feq .f32 x0 1065353216))
  (false)
noncomputable def a79 (x0 : Nat) (p : Bool) : Res := firstT [(true, .bool p, st0)]
noncomputable def w79 (x0 : Nat) : Res :=
 (cond (r100 x0)
 (a79 x0 ((flt .f32 x0 1065353216 || feq .f32 x0 1065353216)))
 (a79 x0 (false)))
set_option maxRecDepth 100000 in
set_option maxHeartbeats 4000000 in
theorem e79 (x0 : Nat) : evFn Try.prog ext T6 noL 200 Try.f79 [.float .f32 x0] st0 = firstT [(true, .bool (r79 x0), st0)] :=
 (show evFn Try.prog ext T6 noL 200 Try.f79 [.float .f32 x0] st0 = w79 x0 from by kernel_rfl).trans
 (show w79 x0 = a79 x0 (r79 x0) from by unfold w79 r79; exact (cond_app (a79 x0) _ rfl rfl))
noncomputable def s79 (args : List Value) (s : St) : List (Bool × Value × St) :=
 match args, s.h with
 | [.float .f32 x0], [] => [(true, .bool (r79 x0), st0)]
 | _, _ => T6 79 args s
noncomputable def T7 : CallF := addF T6 79 s79
set_option maxRecDepth 100000 in
set_option maxHeartbeats 4000000 in
theorem ok7 : CfOk Try.prog T7 := by
  refine cfOk_add ok6 fun args s r s' h1 h2 h3 => ?_
  unfold s79 at h3; split at h3
  · rename_i h; exact callOk ok6 Try.func79 h1 h2 h (lfOkF_no _ _).body (e79 _) rfl h3
  · exact ok6 _ _ _ _ _ h1 h2 h3

/-- spec.l01Given -/
noncomputable def r70 (x0 x1 x2 x3 x4 x5 x6 x7 x8 x9 x10 x11 x12 x13 x14 x15 x16 x17 x18 x19 x20 : Nat) : Int :=
 cond (!(r57 x3 x4 x5 x6 x7 x8 x9 x10 x11 x12 x13 x14 x15 x16 x17 x18 x19 x20))
  (1)
  (cond (!(r102 x0))
  (2)
  (cond (!(r82 x1))
  (2)
  (cond (!(r79 x2))
  (2)
  (0))))
noncomputable def a70 (x0 x1 x2 x3 x4 x5 x6 x7 x8 x9 x10 x11 x12 x13 x14 x15 x16 x17 x18 x19 x20 : Nat) (p : Int) : Res := firstT [(true, .int .i64 p, ⟨[⟨true, (some (.cells [.float .f32 x3, .float .f32 x4, .float .f32 x5, .float .f32 x6, .float .f32 x7, .float .f32 x8, .float .f32 x9, .float .f32 x10, .float .f32 x11, .float .f32 x12, .float .f32 x13, .float .f32 x14, .float .f32 x15, .float .f32 x16, .float .f32 x17, .float .f32 x18, .float .f32 x19, .float .f32 x20]))⟩], 1, []⟩)]
noncomputable def w70 (x0 x1 x2 x3 x4 x5 x6 x7 x8 x9 x10 x11 x12 x13 x14 x15 x16 x17 x18 x19 x20 : Nat) : Res :=
 (cond (!(r57 x3 x4 x5 x6 x7 x8 x9 x10 x11 x12 x13 x14 x15 x16 x17 x18 x19 x20))
 (a70 x0 x1 x2 x3 x4 x5 x6 x7 x8 x9 x10 x11 x12 x13 x14 x15 x16 x17 x18 x19 x20 (1))
 (cond (!(r102 x0))
  (a70 x0 x1 x2 x3 x4 x5 x6 x7 x8 x9 x10 x11 x12 x13 x14 x15 x16 x17 x18 x19 x20 (2))
  (cond (!(r82 x1))
  (a70 x0 x1 x2 x3 x4 x5 x6 x7 x8 x9 x10 x11 x12 x13 x14 x15 x16 x17 x18 x19 x20 (2))
  (cond (!(r79 x2))
  (a70 x0 x1 x2 x3 x4 x5 x6 x7 x8 x9 x10 x11 x12 x13 x14 x15 x16 x17 x18 x19 x20 (2))
  (a70 x0 x1 x2 x3 x4 x5 x6 x7 x8 x9 x10 x11 x12 x13 x14 x15 x16 x17 x18 x19 x20 (0))))))
set_option maxRecDepth 100000 in
set_option maxHeartbeats 4000000 in
theorem e70 (x0 x1 x2 x3 x4 x5 x6 x7 x8 x9 x10 x11 x12 x13 x14 x15 x16 x17 x18 x19 x20 : Nat) : evFn Try.prog ext T7 noL 200 Try.f70 [.pointer (some ⟨0, 0, some 0⟩), .float .f32 x0, .float .f32 x1, .float .f32 x2] ⟨[⟨true, (some (.cells [.float .f32 x3, .float .f32 x4, .float .f32 x5, .float .f32 x6, .float .f32 x7, .float .f32 x8, .float .f32 x9, .float .f32 x10, .float .f32 x11, .float .f32 x12, .float .f32 x13, .float .f32 x14, .float .f32 x15, .float .f32 x16, .float .f32 x17, .float .f32 x18, .float .f32 x19, .float .f32 x20]))⟩], 1, []⟩ = firstT [(true, .int .i64 (r70 x0 x1 x2 x3 x4 x5 x6 x7 x8 x9 x10 x11 x12 x13 x14 x15 x16 x17 x18 x19 x20), ⟨[⟨true, (some (.cells [.float .f32 x3, .float .f32 x4, .float .f32 x5, .float .f32 x6, .float .f32 x7, .float .f32 x8, .float .f32 x9, .float .f32 x10, .float .f32 x11, .float .f32 x12, .float .f32 x13, .float .f32 x14, .float .f32 x15, .float .f32 x16, .float .f32 x17, .float .f32 x18, .float .f32 x19, .float .f32 x20]))⟩], 1, []⟩)] :=
 (show evFn Try.prog ext T7 noL 200 Try.f70 [.pointer (some ⟨0, 0, some 0⟩), .float .f32 x0, .float .f32 x1, .float .f32 x2] ⟨[⟨true, (some (.cells [.float .f32 x3, .float .f32 x4, .float .f32 x5, .float .f32 x6, .float .f32 x7, .float .f32 x8, .float .f32 x9, .float .f32 x10, .float .f32 x11, .float .f32 x12, .float .f32 x13, .float .f32 x14, .float .f32 x15, .float .f32 x16, .float .f32 x17, .float .f32 x18, .float .f32 x19, .float .f32 x20]))⟩], 1, []⟩ = w70 x0 x1 x2 x3 x4 x5 x6 x7 x8 x9 x10 x11 x12 x13 x14 x15 x16 x17 x18 x19 x20 from by kernel_rfl).trans
 (show w70 x0 x1 x2 x3 x4 x5 x6 x7 x8 x9 x10 x11 x12 x13 x14 x15 x16 x17 x18 x19 x20 = a70 x0 x1 x2 x3 x4 x5 x6 x7 x8 x9 x10 x11 x12 x13 x14 x15 x16 x17 x18 x19 x20 (r70 x0 x1 x2 x3 x4 x5 x6 x7 x8 x9 x10 x11 x12 x13 x14 x15 x16 x17 x18 x19 x20) from by unfold w70 r70; exact (cond_app (a70 x0 x1 x2 x3 x4 x5 x6 x7 x8 x9 x10 x11 x12 x13 x14 x15 x16 x17 x18 x19 x20) _ rfl (cond_app (a70 x0 x1 x2 x3 x4 x5 x6 x7 x8 x9 x10 x11 x12 x13 x14 x15 x16 x17 x18 x19 x20) _ rfl (cond_app (a70 x0 x1 x2 x3 x4 x5 x6 x7 x8 x9 x10 x11 x12 x13 x14 x15 x16 x17 x18 x19 x20) _ rfl (cond_app (a70 x0 x1 x2 x3 x4 x5 x6 x7 x8 x9 x10 x11 x12 x13 x14 x15 x16 x17 x18 x19 x20) _ rfl rfl)))))
noncomputable def s70 (args : List Value) (s : St) : List (Bool × Value × St) :=
 match args, s.h with
 | [.pointer (some ⟨f0, f1, some f2⟩), .float .f32 x0, .float .f32 x1, .float .f32 x2], [⟨true, some (.cells [.float .f32 x3, .float .f32 x4, .float .f32 x5, .float .f32 x6, .float .f32 x7, .float .f32 x8, .float .f32 x9, .float .f32 x10, .float .f32 x11, .float .f32 x12, .float .f32 x13, .float .f32 x14, .float .f32 x15, .float .f32 x16, .float .f32 x17, .float .f32 x18, .float .f32 x19, .float .f32 x20])⟩] => if f0 = 0 ∧ f1 = 0 ∧ f2 = 0 then [(true, .int .i64 (r70 x0 x1 x2 x3 x4 x5 x6 x7 x8 x9 x10 x11 x12 x13 x14 x15 x16 x17 x18 x19 x20), ⟨[⟨true, (some (.cells [.float .f32 x3, .float .f32 x4, .float .f32 x5, .float .f32 x6, .float .f32 x7, .float .f32 x8, .float .f32 x9, .float .f32 x10, .float .f32 x11, .float .f32 x12, .float .f32 x13, .float .f32 x14, .float .f32 x15, .float .f32 x16, .float .f32 x17, .float .f32 x18, .float .f32 x19, .float .f32 x20]))⟩], 1, []⟩)] else T7 70 args s
 | _, _ => T7 70 args s
noncomputable def T8 : CallF := addF T7 70 s70
set_option maxRecDepth 100000 in
set_option maxHeartbeats 4000000 in
theorem ok8 : CfOk Try.prog T8 := by
  refine cfOk_add ok7 fun args s r s' h1 h2 h3 => ?_
  unfold s70 at h3; split at h3
  · rename_i h; split at h3
    · rename_i hc; obtain ⟨rfl, rfl, rfl⟩ := hc; exact callOk ok7 Try.func70 h1 h2 h (lfOkF_no _ _).body (e70 _ _ _ _ _ _ _ _ _ _ _ _ _ _ _ _ _ _ _ _ _) rfl h3
    · exact ok7 _ _ _ _ _ h1 h2 h3
  · exact ok7 _ _ _ _ _ h1 h2 h3

/-- spec.l00In -/
noncomputable def r71 (x0 x1 x2 : Int) : Bool :=
 cond (decide ((x0 : Int) ≥ x1))
  ((decide ((x0 : Int) ≤ x2)))
  (false)
noncomputable def a71 (x0 x1 x2 : Int) (p : Bool) : Res := firstT [(true, .bool p, st0)]
noncomputable def w71 (x0 x1 x2 : Int) : Res :=
 (cond (decide ((x0 : Int) ≥ x1))
 (a71 x0 x1 x2 ((decide ((x0 : Int) ≤ x2))))
 (a71 x0 x1 x2 (false)))
set_option maxRecDepth 100000 in
set_option maxHeartbeats 4000000 in
theorem e71 (x0 x1 x2 : Int) : evFn Try.prog ext T8 noL 200 Try.f71 [.int .i64 x0, .int .i64 x1, .int .i64 x2] st0 = firstT [(true, .bool (r71 x0 x1 x2), st0)] :=
 (show evFn Try.prog ext T8 noL 200 Try.f71 [.int .i64 x0, .int .i64 x1, .int .i64 x2] st0 = w71 x0 x1 x2 from by kernel_rfl).trans
 (show w71 x0 x1 x2 = a71 x0 x1 x2 (r71 x0 x1 x2) from by unfold w71 r71; exact (cond_app (a71 x0 x1 x2) _ rfl rfl))
noncomputable def s71 (args : List Value) (s : St) : List (Bool × Value × St) :=
 match args, s.h with
 | [.int .i64 x0, .int .i64 x1, .int .i64 x2], [] => [(true, .bool (r71 x0 x1 x2), st0)]
 | _, _ => T8 71 args s
noncomputable def T9 : CallF := addF T8 71 s71
set_option maxRecDepth 100000 in
set_option maxHeartbeats 4000000 in
theorem ok9 : CfOk Try.prog T9 := by
  refine cfOk_add ok8 fun args s r s' h1 h2 h3 => ?_
  unfold s71 at h3; split at h3
  · rename_i h; exact callOk ok8 Try.func71 h1 h2 h (lfOkF_no _ _).body (e71 _ _ _) rfl h3
  · exact ok8 _ _ _ _ _ h1 h2 h3

/-- spec.l01Sum -/
noncomputable def r58 (x0 x1 x2 x3 x4 x5 x6 x7 x8 x9 x10 x11 x12 x13 x14 x15 x16 x17 : Nat) : Nat :=
 ((fadd .f32 (fadd .f32 (fadd .f32 (fadd .f32 (fadd .f32 x0 x1) x2) x3) x4) x5))
noncomputable def a58 (x0 x1 x2 x3 x4 x5 x6 x7 x8 x9 x10 x11 x12 x13 x14 x15 x16 x17 : Nat) (p : Nat) : Res := firstT [(true, .float .f32 p, ⟨[⟨true, (some (.cells [.float .f32 x0, .float .f32 x1, .float .f32 x2, .float .f32 x3, .float .f32 x4, .float .f32 x5, .float .f32 x6, .float .f32 x7, .float .f32 x8, .float .f32 x9, .float .f32 x10, .float .f32 x11, .float .f32 x12, .float .f32 x13, .float .f32 x14, .float .f32 x15, .float .f32 x16, .float .f32 x17]))⟩], 1, []⟩)]
noncomputable def w58 (x0 x1 x2 x3 x4 x5 x6 x7 x8 x9 x10 x11 x12 x13 x14 x15 x16 x17 : Nat) : Res :=
 (a58 x0 x1 x2 x3 x4 x5 x6 x7 x8 x9 x10 x11 x12 x13 x14 x15 x16 x17 ((fadd .f32 (fadd .f32 (fadd .f32 (fadd .f32 (fadd .f32 x0 x1) x2) x3) x4) x5)))
set_option maxRecDepth 100000 in
set_option maxHeartbeats 4000000 in
theorem e58 (x0 x1 x2 x3 x4 x5 x6 x7 x8 x9 x10 x11 x12 x13 x14 x15 x16 x17 : Nat) : evFn Try.prog ext T9 noL 200 Try.f58 [.pointer (some ⟨0, 0, some 0⟩)] ⟨[⟨true, (some (.cells [.float .f32 x0, .float .f32 x1, .float .f32 x2, .float .f32 x3, .float .f32 x4, .float .f32 x5, .float .f32 x6, .float .f32 x7, .float .f32 x8, .float .f32 x9, .float .f32 x10, .float .f32 x11, .float .f32 x12, .float .f32 x13, .float .f32 x14, .float .f32 x15, .float .f32 x16, .float .f32 x17]))⟩], 1, []⟩ = firstT [(true, .float .f32 (r58 x0 x1 x2 x3 x4 x5 x6 x7 x8 x9 x10 x11 x12 x13 x14 x15 x16 x17), ⟨[⟨true, (some (.cells [.float .f32 x0, .float .f32 x1, .float .f32 x2, .float .f32 x3, .float .f32 x4, .float .f32 x5, .float .f32 x6, .float .f32 x7, .float .f32 x8, .float .f32 x9, .float .f32 x10, .float .f32 x11, .float .f32 x12, .float .f32 x13, .float .f32 x14, .float .f32 x15, .float .f32 x16, .float .f32 x17]))⟩], 1, []⟩)] :=
 (show evFn Try.prog ext T9 noL 200 Try.f58 [.pointer (some ⟨0, 0, some 0⟩)] ⟨[⟨true, (some (.cells [.float .f32 x0, .float .f32 x1, .float .f32 x2, .float .f32 x3, .float .f32 x4, .float .f32 x5, .float .f32 x6, .float .f32 x7, .float .f32 x8, .float .f32 x9, .float .f32 x10, .float .f32 x11, .float .f32 x12, .float .f32 x13, .float .f32 x14, .float .f32 x15, .float .f32 x16, .float .f32 x17]))⟩], 1, []⟩ = w58 x0 x1 x2 x3 x4 x5 x6 x7 x8 x9 x10 x11 x12 x13 x14 x15 x16 x17 from by kernel_rfl).trans
 (show w58 x0 x1 x2 x3 x4 x5 x6 x7 x8 x9 x10 x11 x12 x13 x14 x15 x16 x17 = a58 x0 x1 x2 x3 x4 x5 x6 x7 x8 x9 x10 x11 x12 x13 x14 x15 x16 x17 (r58 x0 x1 x2 x3 x4 x5 x6 x7 x8 x9 x10 x11 x12 x13 x14 x15 x16 x17) from by unfold w58 r58; exact rfl)
noncomputable def s58 (args : List Value) (s : St) : List (Bool × Value × St) :=
 match args, s.h with
 | [.pointer (some ⟨f0, f1, some f2⟩)], [⟨true, some (.cells [.float .f32 x0, .float .f32 x1, .float .f32 x2, .float .f32 x3, .float .f32 x4, .float .f32 x5, .float .f32 x6, .float .f32 x7, .float .f32 x8, .float .f32 x9, .float .f32 x10, .float .f32 x11, .float .f32 x12, .float .f32 x13, .float .f32 x14, .float .f32 x15, .float .f32 x16, .float .f32 x17])⟩] => if f0 = 0 ∧ f1 = 0 ∧ f2 = 0 then [(true, .float .f32 (r58 x0 x1 x2 x3 x4 x5 x6 x7 x8 x9 x10 x11 x12 x13 x14 x15 x16 x17), ⟨[⟨true, (some (.cells [.float .f32 x0, .float .f32 x1, .float .f32 x2, .float .f32 x3, .float .f32 x4, .float .f32 x5, .float .f32 x6, .float .f32 x7, .float .f32 x8, .float .f32 x9, .float .f32 x10, .float .f32 x11, .float .f32 x12, .float .f32 x13, .float .f32 x14, .float .f32 x15, .float .f32 x16, .float .f32 x17]))⟩], 1, []⟩)] else T9 58 args s
 | _, _ => T9 58 args s
noncomputable def T10 : CallF := addF T9 58 s58
set_option maxRecDepth 100000 in
set_option maxHeartbeats 4000000 in
theorem ok10 : CfOk Try.prog T10 := by
  refine cfOk_add ok9 fun args s r s' h1 h2 h3 => ?_
  unfold s58 at h3; split at h3
  · rename_i h; split at h3
    · rename_i hc; obtain ⟨rfl, rfl, rfl⟩ := hc; exact callOk ok9 Try.func58 h1 h2 h (lfOkF_no _ _).body (e58 _ _ _ _ _ _ _ _ _ _ _ _ _ _ _ _ _ _) rfl h3
    · exact ok9 _ _ _ _ _ h1 h2 h3
  · exact ok9 _ _ _ _ _ h1 h2 h3

/-- spec.l01Mass -/
noncomputable def r110 (x0 x1 x2 x3 x4 x5 x6 x7 x8 x9 x10 x11 x12 x13 x14 x15 x16 x17 : Nat) : Nat :=
 ((fadd .f32 (fadd .f32 (fmul .f32 x0 1082130432) (fmul .f32 x12 1073741824)) 1048576000))
noncomputable def a110 (x0 x1 x2 x3 x4 x5 x6 x7 x8 x9 x10 x11 x12 x13 x14 x15 x16 x17 : Nat) (p : Nat) : Res := firstT [(true, .float .f32 p, ⟨[⟨true, (some (.cells [.float .f32 x0, .float .f32 x1, .float .f32 x2, .float .f32 x3, .float .f32 x4, .float .f32 x5, .float .f32 x6, .float .f32 x7, .float .f32 x8, .float .f32 x9, .float .f32 x10, .float .f32 x11, .float .f32 x12, .float .f32 x13, .float .f32 x14, .float .f32 x15, .float .f32 x16, .float .f32 x17]))⟩], 1, []⟩)]
noncomputable def w110 (x0 x1 x2 x3 x4 x5 x6 x7 x8 x9 x10 x11 x12 x13 x14 x15 x16 x17 : Nat) : Res :=
 (a110 x0 x1 x2 x3 x4 x5 x6 x7 x8 x9 x10 x11 x12 x13 x14 x15 x16 x17 ((fadd .f32 (fadd .f32 (fmul .f32 x0 1082130432) (fmul .f32 x12 1073741824)) 1048576000)))
set_option maxRecDepth 100000 in
set_option maxHeartbeats 4000000 in
theorem e110 (x0 x1 x2 x3 x4 x5 x6 x7 x8 x9 x10 x11 x12 x13 x14 x15 x16 x17 : Nat) : evFn Try.prog ext T10 noL 200 Try.f110 [.pointer (some ⟨0, 0, some 0⟩), .int .i64 0] ⟨[⟨true, (some (.cells [.float .f32 x0, .float .f32 x1, .float .f32 x2, .float .f32 x3, .float .f32 x4, .float .f32 x5, .float .f32 x6, .float .f32 x7, .float .f32 x8, .float .f32 x9, .float .f32 x10, .float .f32 x11, .float .f32 x12, .float .f32 x13, .float .f32 x14, .float .f32 x15, .float .f32 x16, .float .f32 x17]))⟩], 1, []⟩ = firstT [(true, .float .f32 (r110 x0 x1 x2 x3 x4 x5 x6 x7 x8 x9 x10 x11 x12 x13 x14 x15 x16 x17), ⟨[⟨true, (some (.cells [.float .f32 x0, .float .f32 x1, .float .f32 x2, .float .f32 x3, .float .f32 x4, .float .f32 x5, .float .f32 x6, .float .f32 x7, .float .f32 x8, .float .f32 x9, .float .f32 x10, .float .f32 x11, .float .f32 x12, .float .f32 x13, .float .f32 x14, .float .f32 x15, .float .f32 x16, .float .f32 x17]))⟩], 1, []⟩)] :=
 (show evFn Try.prog ext T10 noL 200 Try.f110 [.pointer (some ⟨0, 0, some 0⟩), .int .i64 0] ⟨[⟨true, (some (.cells [.float .f32 x0, .float .f32 x1, .float .f32 x2, .float .f32 x3, .float .f32 x4, .float .f32 x5, .float .f32 x6, .float .f32 x7, .float .f32 x8, .float .f32 x9, .float .f32 x10, .float .f32 x11, .float .f32 x12, .float .f32 x13, .float .f32 x14, .float .f32 x15, .float .f32 x16, .float .f32 x17]))⟩], 1, []⟩ = w110 x0 x1 x2 x3 x4 x5 x6 x7 x8 x9 x10 x11 x12 x13 x14 x15 x16 x17 from by kernel_rfl).trans
 (show w110 x0 x1 x2 x3 x4 x5 x6 x7 x8 x9 x10 x11 x12 x13 x14 x15 x16 x17 = a110 x0 x1 x2 x3 x4 x5 x6 x7 x8 x9 x10 x11 x12 x13 x14 x15 x16 x17 (r110 x0 x1 x2 x3 x4 x5 x6 x7 x8 x9 x10 x11 x12 x13 x14 x15 x16 x17) from by unfold w110 r110; exact rfl)
noncomputable def s110 (args : List Value) (s : St) : List (Bool × Value × St) :=
 match args, s.h with
 | [.pointer (some ⟨f0, f1, some f2⟩), .int .i64 f3], [⟨true, some (.cells [.float .f32 x0, .float .f32 x1, .float .f32 x2, .float .f32 x3, .float .f32 x4, .float .f32 x5, .float .f32 x6, .float .f32 x7, .float .f32 x8, .float .f32 x9, .float .f32 x10, .float .f32 x11, .float .f32 x12, .float .f32 x13, .float .f32 x14, .float .f32 x15, .float .f32 x16, .float .f32 x17])⟩] => if f0 = 0 ∧ f1 = 0 ∧ f2 = 0 ∧ f3 = 0 then [(true, .float .f32 (r110 x0 x1 x2 x3 x4 x5 x6 x7 x8 x9 x10 x11 x12 x13 x14 x15 x16 x17), ⟨[⟨true, (some (.cells [.float .f32 x0, .float .f32 x1, .float .f32 x2, .float .f32 x3, .float .f32 x4, .float .f32 x5, .float .f32 x6, .float .f32 x7, .float .f32 x8, .float .f32 x9, .float .f32 x10, .float .f32 x11, .float .f32 x12, .float .f32 x13, .float .f32 x14, .float .f32 x15, .float .f32 x16, .float .f32 x17]))⟩], 1, []⟩)] else T10 110 args s
 | _, _ => T10 110 args s
noncomputable def T11 : CallF := addF T10 110 s110
set_option maxRecDepth 100000 in
set_option maxHeartbeats 4000000 in
theorem ok11 : CfOk Try.prog T11 := by
  refine cfOk_add ok10 fun args s r s' h1 h2 h3 => ?_
  unfold s110 at h3; split at h3
  · rename_i h; split at h3
    · rename_i hc; obtain ⟨rfl, rfl, rfl, rfl⟩ := hc; exact callOk ok10 Try.func110 h1 h2 h (lfOkF_no _ _).body (e110 _ _ _ _ _ _ _ _ _ _ _ _ _ _ _ _ _ _) rfl h3
    · exact ok10 _ _ _ _ _ h1 h2 h3
  · exact ok10 _ _ _ _ _ h1 h2 h3

/-- spec.l01Held -/
noncomputable def r118 (x0 x1 x2 : Nat) : Nat :=
 cond (flt .f32 x0 x1)
  (x1)
  (cond (fgt .f32 x0 x2)
  (x2)
  (x0))
noncomputable def a118 (x0 x1 x2 : Nat) (p : Nat) : Res := firstT [(true, .float .f32 p, st0)]
noncomputable def w118 (x0 x1 x2 : Nat) : Res :=
 (cond (flt .f32 x0 x1)
 (a118 x0 x1 x2 (x1))
 (cond (fgt .f32 x0 x2)
  (a118 x0 x1 x2 (x2))
  (a118 x0 x1 x2 (x0))))
set_option maxRecDepth 100000 in
set_option maxHeartbeats 4000000 in
theorem e118 (x0 x1 x2 : Nat) : evFn Try.prog ext T11 noL 200 Try.f118 [.float .f32 x0, .float .f32 x1, .float .f32 x2] st0 = firstT [(true, .float .f32 (r118 x0 x1 x2), st0)] :=
 (show evFn Try.prog ext T11 noL 200 Try.f118 [.float .f32 x0, .float .f32 x1, .float .f32 x2] st0 = w118 x0 x1 x2 from by kernel_rfl).trans
 (show w118 x0 x1 x2 = a118 x0 x1 x2 (r118 x0 x1 x2) from by unfold w118 r118; exact (cond_app (a118 x0 x1 x2) _ rfl (cond_app (a118 x0 x1 x2) _ rfl rfl)))
noncomputable def s118 (args : List Value) (s : St) : List (Bool × Value × St) :=
 match args, s.h with
 | [.float .f32 x0, .float .f32 x1, .float .f32 x2], [] => [(true, .float .f32 (r118 x0 x1 x2), st0)]
 | _, _ => T11 118 args s
noncomputable def T12 : CallF := addF T11 118 s118
set_option maxRecDepth 100000 in
set_option maxHeartbeats 4000000 in
theorem ok12 : CfOk Try.prog T12 := by
  refine cfOk_add ok11 fun args s r s' h1 h2 h3 => ?_
  unfold s118 at h3; split at h3
  · rename_i h; exact callOk ok11 Try.func118 h1 h2 h (lfOkF_no _ _).body (e118 _ _ _) rfl h3
  · exact ok11 _ _ _ _ _ h1 h2 h3

/-- spec.l01Mass -/
noncomputable def r110b (x0 x1 x2 x3 x4 x5 x6 x7 x8 x9 x10 x11 x12 x13 x14 x15 x16 x17 : Nat) : Nat :=
 ((fadd .f32 (fadd .f32 (fmul .f32 x1 1082130432) (fmul .f32 x13 1073741824)) 1048576000))
noncomputable def a110b (x0 x1 x2 x3 x4 x5 x6 x7 x8 x9 x10 x11 x12 x13 x14 x15 x16 x17 : Nat) (p : Nat) : Res := firstT [(true, .float .f32 p, ⟨[⟨true, (some (.cells [.float .f32 x0, .float .f32 x1, .float .f32 x2, .float .f32 x3, .float .f32 x4, .float .f32 x5, .float .f32 x6, .float .f32 x7, .float .f32 x8, .float .f32 x9, .float .f32 x10, .float .f32 x11, .float .f32 x12, .float .f32 x13, .float .f32 x14, .float .f32 x15, .float .f32 x16, .float .f32 x17]))⟩], 1, []⟩)]
noncomputable def w110b (x0 x1 x2 x3 x4 x5 x6 x7 x8 x9 x10 x11 x12 x13 x14 x15 x16 x17 : Nat) : Res :=
 (a110b x0 x1 x2 x3 x4 x5 x6 x7 x8 x9 x10 x11 x12 x13 x14 x15 x16 x17 ((fadd .f32 (fadd .f32 (fmul .f32 x1 1082130432) (fmul .f32 x13 1073741824)) 1048576000)))
set_option maxRecDepth 100000 in
set_option maxHeartbeats 4000000 in
theorem e110b (x0 x1 x2 x3 x4 x5 x6 x7 x8 x9 x10 x11 x12 x13 x14 x15 x16 x17 : Nat) : evFn Try.prog ext T12 noL 200 Try.f110 [.pointer (some ⟨0, 0, some 0⟩), .int .i64 1] ⟨[⟨true, (some (.cells [.float .f32 x0, .float .f32 x1, .float .f32 x2, .float .f32 x3, .float .f32 x4, .float .f32 x5, .float .f32 x6, .float .f32 x7, .float .f32 x8, .float .f32 x9, .float .f32 x10, .float .f32 x11, .float .f32 x12, .float .f32 x13, .float .f32 x14, .float .f32 x15, .float .f32 x16, .float .f32 x17]))⟩], 1, []⟩ = firstT [(true, .float .f32 (r110b x0 x1 x2 x3 x4 x5 x6 x7 x8 x9 x10 x11 x12 x13 x14 x15 x16 x17), ⟨[⟨true, (some (.cells [.float .f32 x0, .float .f32 x1, .float .f32 x2, .float .f32 x3, .float .f32 x4, .float .f32 x5, .float .f32 x6, .float .f32 x7, .float .f32 x8, .float .f32 x9, .float .f32 x10, .float .f32 x11, .float .f32 x12, .float .f32 x13, .float .f32 x14, .float .f32 x15, .float .f32 x16, .float .f32 x17]))⟩], 1, []⟩)] :=
 (show evFn Try.prog ext T12 noL 200 Try.f110 [.pointer (some ⟨0, 0, some 0⟩), .int .i64 1] ⟨[⟨true, (some (.cells [.float .f32 x0, .float .f32 x1, .float .f32 x2, .float .f32 x3, .float .f32 x4, .float .f32 x5, .float .f32 x6, .float .f32 x7, .float .f32 x8, .float .f32 x9, .float .f32 x10, .float .f32 x11, .float .f32 x12, .float .f32 x13, .float .f32 x14, .float .f32 x15, .float .f32 x16, .float .f32 x17]))⟩], 1, []⟩ = w110b x0 x1 x2 x3 x4 x5 x6 x7 x8 x9 x10 x11 x12 x13 x14 x15 x16 x17 from by kernel_rfl).trans
 (show w110b x0 x1 x2 x3 x4 x5 x6 x7 x8 x9 x10 x11 x12 x13 x14 x15 x16 x17 = a110b x0 x1 x2 x3 x4 x5 x6 x7 x8 x9 x10 x11 x12 x13 x14 x15 x16 x17 (r110b x0 x1 x2 x3 x4 x5 x6 x7 x8 x9 x10 x11 x12 x13 x14 x15 x16 x17) from by unfold w110b r110b; exact rfl)
noncomputable def s110b (args : List Value) (s : St) : List (Bool × Value × St) :=
 match args, s.h with
 | [.pointer (some ⟨f0, f1, some f2⟩), .int .i64 f3], [⟨true, some (.cells [.float .f32 x0, .float .f32 x1, .float .f32 x2, .float .f32 x3, .float .f32 x4, .float .f32 x5, .float .f32 x6, .float .f32 x7, .float .f32 x8, .float .f32 x9, .float .f32 x10, .float .f32 x11, .float .f32 x12, .float .f32 x13, .float .f32 x14, .float .f32 x15, .float .f32 x16, .float .f32 x17])⟩] => if f0 = 0 ∧ f1 = 0 ∧ f2 = 0 ∧ f3 = 1 then [(true, .float .f32 (r110b x0 x1 x2 x3 x4 x5 x6 x7 x8 x9 x10 x11 x12 x13 x14 x15 x16 x17), ⟨[⟨true, (some (.cells [.float .f32 x0, .float .f32 x1, .float .f32 x2, .float .f32 x3, .float .f32 x4, .float .f32 x5, .float .f32 x6, .float .f32 x7, .float .f32 x8, .float .f32 x9, .float .f32 x10, .float .f32 x11, .float .f32 x12, .float .f32 x13, .float .f32 x14, .float .f32 x15, .float .f32 x16, .float .f32 x17]))⟩], 1, []⟩)] else T12 110 args s
 | _, _ => T12 110 args s
noncomputable def T13 : CallF := addF T12 110 s110b
set_option maxRecDepth 100000 in
set_option maxHeartbeats 4000000 in
theorem ok13 : CfOk Try.prog T13 := by
  refine cfOk_add ok12 fun args s r s' h1 h2 h3 => ?_
  unfold s110b at h3; split at h3
  · rename_i h; split at h3
    · rename_i hc; obtain ⟨rfl, rfl, rfl, rfl⟩ := hc; exact callOk ok12 Try.func110 h1 h2 h (lfOkF_no _ _).body (e110b _ _ _ _ _ _ _ _ _ _ _ _ _ _ _ _ _ _) rfl h3
    · exact ok12 _ _ _ _ _ h1 h2 h3
  · exact ok12 _ _ _ _ _ h1 h2 h3

/-- spec.l01Mass -/
noncomputable def r110c (x0 x1 x2 x3 x4 x5 x6 x7 x8 x9 x10 x11 x12 x13 x14 x15 x16 x17 : Nat) : Nat :=
 ((fadd .f32 (fadd .f32 (fmul .f32 x2 1082130432) (fmul .f32 x14 1073741824)) 1048576000))
noncomputable def a110c (x0 x1 x2 x3 x4 x5 x6 x7 x8 x9 x10 x11 x12 x13 x14 x15 x16 x17 : Nat) (p : Nat) : Res := firstT [(true, .float .f32 p, ⟨[⟨true, (some (.cells [.float .f32 x0, .float .f32 x1, .float .f32 x2, .float .f32 x3, .float .f32 x4, .float .f32 x5, .float .f32 x6, .float .f32 x7, .float .f32 x8, .float .f32 x9, .float .f32 x10, .float .f32 x11, .float .f32 x12, .float .f32 x13, .float .f32 x14, .float .f32 x15, .float .f32 x16, .float .f32 x17]))⟩], 1, []⟩)]
noncomputable def w110c (x0 x1 x2 x3 x4 x5 x6 x7 x8 x9 x10 x11 x12 x13 x14 x15 x16 x17 : Nat) : Res :=
 (a110c x0 x1 x2 x3 x4 x5 x6 x7 x8 x9 x10 x11 x12 x13 x14 x15 x16 x17 ((fadd .f32 (fadd .f32 (fmul .f32 x2 1082130432) (fmul .f32 x14 1073741824)) 1048576000)))
set_option maxRecDepth 100000 in
set_option maxHeartbeats 4000000 in
theorem e110c (x0 x1 x2 x3 x4 x5 x6 x7 x8 x9 x10 x11 x12 x13 x14 x15 x16 x17 : Nat) : evFn Try.prog ext T13 noL 200 Try.f110 [.pointer (some ⟨0, 0, some 0⟩), .int .i64 2] ⟨[⟨true, (some (.cells [.float .f32 x0, .float .f32 x1, .float .f32 x2, .float .f32 x3, .float .f32 x4, .float .f32 x5, .float .f32 x6, .float .f32 x7, .float .f32 x8, .float .f32 x9, .float .f32 x10, .float .f32 x11, .float .f32 x12, .float .f32 x13, .float .f32 x14, .float .f32 x15, .float .f32 x16, .float .f32 x17]))⟩], 1, []⟩ = firstT [(true, .float .f32 (r110c x0 x1 x2 x3 x4 x5 x6 x7 x8 x9 x10 x11 x12 x13 x14 x15 x16 x17), ⟨[⟨true, (some (.cells [.float .f32 x0, .float .f32 x1, .float .f32 x2, .float .f32 x3, .float .f32 x4, .float .f32 x5, .float .f32 x6, .float .f32 x7, .float .f32 x8, .float .f32 x9, .float .f32 x10, .float .f32 x11, .float .f32 x12, .float .f32 x13, .float .f32 x14, .float .f32 x15, .float .f32 x16, .float .f32 x17]))⟩], 1, []⟩)] :=
 (show evFn Try.prog ext T13 noL 200 Try.f110 [.pointer (some ⟨0, 0, some 0⟩), .int .i64 2] ⟨[⟨true, (some (.cells [.float .f32 x0, .float .f32 x1, .float .f32 x2, .float .f32 x3, .float .f32 x4, .float .f32 x5, .float .f32 x6, .float .f32 x7, .float .f32 x8, .float .f32 x9, .float .f32 x10, .float .f32 x11, .float .f32 x12, .float .f32 x13, .float .f32 x14, .float .f32 x15, .float .f32 x16, .float .f32 x17]))⟩], 1, []⟩ = w110c x0 x1 x2 x3 x4 x5 x6 x7 x8 x9 x10 x11 x12 x13 x14 x15 x16 x17 from by kernel_rfl).trans
 (show w110c x0 x1 x2 x3 x4 x5 x6 x7 x8 x9 x10 x11 x12 x13 x14 x15 x16 x17 = a110c x0 x1 x2 x3 x4 x5 x6 x7 x8 x9 x10 x11 x12 x13 x14 x15 x16 x17 (r110c x0 x1 x2 x3 x4 x5 x6 x7 x8 x9 x10 x11 x12 x13 x14 x15 x16 x17) from by unfold w110c r110c; exact rfl)
noncomputable def s110c (args : List Value) (s : St) : List (Bool × Value × St) :=
 match args, s.h with
 | [.pointer (some ⟨f0, f1, some f2⟩), .int .i64 f3], [⟨true, some (.cells [.float .f32 x0, .float .f32 x1, .float .f32 x2, .float .f32 x3, .float .f32 x4, .float .f32 x5, .float .f32 x6, .float .f32 x7, .float .f32 x8, .float .f32 x9, .float .f32 x10, .float .f32 x11, .float .f32 x12, .float .f32 x13, .float .f32 x14, .float .f32 x15, .float .f32 x16, .float .f32 x17])⟩] => if f0 = 0 ∧ f1 = 0 ∧ f2 = 0 ∧ f3 = 2 then [(true, .float .f32 (r110c x0 x1 x2 x3 x4 x5 x6 x7 x8 x9 x10 x11 x12 x13 x14 x15 x16 x17), ⟨[⟨true, (some (.cells [.float .f32 x0, .float .f32 x1, .float .f32 x2, .float .f32 x3, .float .f32 x4, .float .f32 x5, .float .f32 x6, .float .f32 x7, .float .f32 x8, .float .f32 x9, .float .f32 x10, .float .f32 x11, .float .f32 x12, .float .f32 x13, .float .f32 x14, .float .f32 x15, .float .f32 x16, .float .f32 x17]))⟩], 1, []⟩)] else T13 110 args s
 | _, _ => T13 110 args s
noncomputable def T14 : CallF := addF T13 110 s110c
set_option maxRecDepth 100000 in
set_option maxHeartbeats 4000000 in
theorem ok14 : CfOk Try.prog T14 := by
  refine cfOk_add ok13 fun args s r s' h1 h2 h3 => ?_
  unfold s110c at h3; split at h3
  · rename_i h; split at h3
    · rename_i hc; obtain ⟨rfl, rfl, rfl, rfl⟩ := hc; exact callOk ok13 Try.func110 h1 h2 h (lfOkF_no _ _).body (e110c _ _ _ _ _ _ _ _ _ _ _ _ _ _ _ _ _ _) rfl h3
    · exact ok13 _ _ _ _ _ h1 h2 h3
  · exact ok13 _ _ _ _ _ h1 h2 h3

/-- spec.l01Mass -/
noncomputable def r110d (x0 x1 x2 x3 x4 x5 x6 x7 x8 x9 x10 x11 x12 x13 x14 x15 x16 x17 : Nat) : Nat :=
 ((fadd .f32 (fadd .f32 (fmul .f32 x3 1082130432) (fmul .f32 x15 1073741824)) 1048576000))
noncomputable def a110d (x0 x1 x2 x3 x4 x5 x6 x7 x8 x9 x10 x11 x12 x13 x14 x15 x16 x17 : Nat) (p : Nat) : Res := firstT [(true, .float .f32 p, ⟨[⟨true, (some (.cells [.float .f32 x0, .float .f32 x1, .float .f32 x2, .float .f32 x3, .float .f32 x4, .float .f32 x5, .float .f32 x6, .float .f32 x7, .float .f32 x8, .float .f32 x9, .float .f32 x10, .float .f32 x11, .float .f32 x12, .float .f32 x13, .float .f32 x14, .float .f32 x15, .float .f32 x16, .float .f32 x17]))⟩], 1, []⟩)]
noncomputable def w110d (x0 x1 x2 x3 x4 x5 x6 x7 x8 x9 x10 x11 x12 x13 x14 x15 x16 x17 : Nat) : Res :=
 (a110d x0 x1 x2 x3 x4 x5 x6 x7 x8 x9 x10 x11 x12 x13 x14 x15 x16 x17 ((fadd .f32 (fadd .f32 (fmul .f32 x3 1082130432) (fmul .f32 x15 1073741824)) 1048576000)))
set_option maxRecDepth 100000 in
set_option maxHeartbeats 4000000 in
theorem e110d (x0 x1 x2 x3 x4 x5 x6 x7 x8 x9 x10 x11 x12 x13 x14 x15 x16 x17 : Nat) : evFn Try.prog ext T14 noL 200 Try.f110 [.pointer (some ⟨0, 0, some 0⟩), .int .i64 3] ⟨[⟨true, (some (.cells [.float .f32 x0, .float .f32 x1, .float .f32 x2, .float .f32 x3, .float .f32 x4, .float .f32 x5, .float .f32 x6, .float .f32 x7, .float .f32 x8, .float .f32 x9, .float .f32 x10, .float .f32 x11, .float .f32 x12, .float .f32 x13, .float .f32 x14, .float .f32 x15, .float .f32 x16, .float .f32 x17]))⟩], 1, []⟩ = firstT [(true, .float .f32 (r110d x0 x1 x2 x3 x4 x5 x6 x7 x8 x9 x10 x11 x12 x13 x14 x15 x16 x17), ⟨[⟨true, (some (.cells [.float .f32 x0, .float .f32 x1, .float .f32 x2, .float .f32 x3, .float .f32 x4, .float .f32 x5, .float .f32 x6, .float .f32 x7, .float .f32 x8, .float .f32 x9, .float .f32 x10, .float .f32 x11, .float .f32 x12, .float .f32 x13, .float .f32 x14, .float .f32 x15, .float .f32 x16, .float .f32 x17]))⟩], 1, []⟩)] :=
 (show evFn Try.prog ext T14 noL 200 Try.f110 [.pointer (some ⟨0, 0, some 0⟩), .int .i64 3] ⟨[⟨true, (some (.cells [.float .f32 x0, .float .f32 x1, .float .f32 x2, .float .f32 x3, .float .f32 x4, .float .f32 x5, .float .f32 x6, .float .f32 x7, .float .f32 x8, .float .f32 x9, .float .f32 x10, .float .f32 x11, .float .f32 x12, .float .f32 x13, .float .f32 x14, .float .f32 x15, .float .f32 x16, .float .f32 x17]))⟩], 1, []⟩ = w110d x0 x1 x2 x3 x4 x5 x6 x7 x8 x9 x10 x11 x12 x13 x14 x15 x16 x17 from by kernel_rfl).trans
 (show w110d x0 x1 x2 x3 x4 x5 x6 x7 x8 x9 x10 x11 x12 x13 x14 x15 x16 x17 = a110d x0 x1 x2 x3 x4 x5 x6 x7 x8 x9 x10 x11 x12 x13 x14 x15 x16 x17 (r110d x0 x1 x2 x3 x4 x5 x6 x7 x8 x9 x10 x11 x12 x13 x14 x15 x16 x17) from by unfold w110d r110d; exact rfl)
noncomputable def s110d (args : List Value) (s : St) : List (Bool × Value × St) :=
 match args, s.h with
 | [.pointer (some ⟨f0, f1, some f2⟩), .int .i64 f3], [⟨true, some (.cells [.float .f32 x0, .float .f32 x1, .float .f32 x2, .float .f32 x3, .float .f32 x4, .float .f32 x5, .float .f32 x6, .float .f32 x7, .float .f32 x8, .float .f32 x9, .float .f32 x10, .float .f32 x11, .float .f32 x12, .float .f32 x13, .float .f32 x14, .float .f32 x15, .float .f32 x16, .float .f32 x17])⟩] => if f0 = 0 ∧ f1 = 0 ∧ f2 = 0 ∧ f3 = 3 then [(true, .float .f32 (r110d x0 x1 x2 x3 x4 x5 x6 x7 x8 x9 x10 x11 x12 x13 x14 x15 x16 x17), ⟨[⟨true, (some (.cells [.float .f32 x0, .float .f32 x1, .float .f32 x2, .float .f32 x3, .float .f32 x4, .float .f32 x5, .float .f32 x6, .float .f32 x7, .float .f32 x8, .float .f32 x9, .float .f32 x10, .float .f32 x11, .float .f32 x12, .float .f32 x13, .float .f32 x14, .float .f32 x15, .float .f32 x16, .float .f32 x17]))⟩], 1, []⟩)] else T14 110 args s
 | _, _ => T14 110 args s
noncomputable def T15 : CallF := addF T14 110 s110d
set_option maxRecDepth 100000 in
set_option maxHeartbeats 4000000 in
theorem ok15 : CfOk Try.prog T15 := by
  refine cfOk_add ok14 fun args s r s' h1 h2 h3 => ?_
  unfold s110d at h3; split at h3
  · rename_i h; split at h3
    · rename_i hc; obtain ⟨rfl, rfl, rfl, rfl⟩ := hc; exact callOk ok14 Try.func110 h1 h2 h (lfOkF_no _ _).body (e110d _ _ _ _ _ _ _ _ _ _ _ _ _ _ _ _ _ _) rfl h3
    · exact ok14 _ _ _ _ _ h1 h2 h3
  · exact ok14 _ _ _ _ _ h1 h2 h3

/-- spec.l01Mass -/
noncomputable def r110e (x0 x1 x2 x3 x4 x5 x6 x7 x8 x9 x10 x11 x12 x13 x14 x15 x16 x17 : Nat) : Nat :=
 ((fadd .f32 (fadd .f32 (fmul .f32 x4 1082130432) (fmul .f32 x16 1073741824)) 1048576000))
noncomputable def a110e (x0 x1 x2 x3 x4 x5 x6 x7 x8 x9 x10 x11 x12 x13 x14 x15 x16 x17 : Nat) (p : Nat) : Res := firstT [(true, .float .f32 p, ⟨[⟨true, (some (.cells [.float .f32 x0, .float .f32 x1, .float .f32 x2, .float .f32 x3, .float .f32 x4, .float .f32 x5, .float .f32 x6, .float .f32 x7, .float .f32 x8, .float .f32 x9, .float .f32 x10, .float .f32 x11, .float .f32 x12, .float .f32 x13, .float .f32 x14, .float .f32 x15, .float .f32 x16, .float .f32 x17]))⟩], 1, []⟩)]
noncomputable def w110e (x0 x1 x2 x3 x4 x5 x6 x7 x8 x9 x10 x11 x12 x13 x14 x15 x16 x17 : Nat) : Res :=
 (a110e x0 x1 x2 x3 x4 x5 x6 x7 x8 x9 x10 x11 x12 x13 x14 x15 x16 x17 ((fadd .f32 (fadd .f32 (fmul .f32 x4 1082130432) (fmul .f32 x16 1073741824)) 1048576000)))
set_option maxRecDepth 100000 in
set_option maxHeartbeats 4000000 in
theorem e110e (x0 x1 x2 x3 x4 x5 x6 x7 x8 x9 x10 x11 x12 x13 x14 x15 x16 x17 : Nat) : evFn Try.prog ext T15 noL 200 Try.f110 [.pointer (some ⟨0, 0, some 0⟩), .int .i64 4] ⟨[⟨true, (some (.cells [.float .f32 x0, .float .f32 x1, .float .f32 x2, .float .f32 x3, .float .f32 x4, .float .f32 x5, .float .f32 x6, .float .f32 x7, .float .f32 x8, .float .f32 x9, .float .f32 x10, .float .f32 x11, .float .f32 x12, .float .f32 x13, .float .f32 x14, .float .f32 x15, .float .f32 x16, .float .f32 x17]))⟩], 1, []⟩ = firstT [(true, .float .f32 (r110e x0 x1 x2 x3 x4 x5 x6 x7 x8 x9 x10 x11 x12 x13 x14 x15 x16 x17), ⟨[⟨true, (some (.cells [.float .f32 x0, .float .f32 x1, .float .f32 x2, .float .f32 x3, .float .f32 x4, .float .f32 x5, .float .f32 x6, .float .f32 x7, .float .f32 x8, .float .f32 x9, .float .f32 x10, .float .f32 x11, .float .f32 x12, .float .f32 x13, .float .f32 x14, .float .f32 x15, .float .f32 x16, .float .f32 x17]))⟩], 1, []⟩)] :=
 (show evFn Try.prog ext T15 noL 200 Try.f110 [.pointer (some ⟨0, 0, some 0⟩), .int .i64 4] ⟨[⟨true, (some (.cells [.float .f32 x0, .float .f32 x1, .float .f32 x2, .float .f32 x3, .float .f32 x4, .float .f32 x5, .float .f32 x6, .float .f32 x7, .float .f32 x8, .float .f32 x9, .float .f32 x10, .float .f32 x11, .float .f32 x12, .float .f32 x13, .float .f32 x14, .float .f32 x15, .float .f32 x16, .float .f32 x17]))⟩], 1, []⟩ = w110e x0 x1 x2 x3 x4 x5 x6 x7 x8 x9 x10 x11 x12 x13 x14 x15 x16 x17 from by kernel_rfl).trans
 (show w110e x0 x1 x2 x3 x4 x5 x6 x7 x8 x9 x10 x11 x12 x13 x14 x15 x16 x17 = a110e x0 x1 x2 x3 x4 x5 x6 x7 x8 x9 x10 x11 x12 x13 x14 x15 x16 x17 (r110e x0 x1 x2 x3 x4 x5 x6 x7 x8 x9 x10 x11 x12 x13 x14 x15 x16 x17) from by unfold w110e r110e; exact rfl)
noncomputable def s110e (args : List Value) (s : St) : List (Bool × Value × St) :=
 match args, s.h with
 | [.pointer (some ⟨f0, f1, some f2⟩), .int .i64 f3], [⟨true, some (.cells [.float .f32 x0, .float .f32 x1, .float .f32 x2, .float .f32 x3, .float .f32 x4, .float .f32 x5, .float .f32 x6, .float .f32 x7, .float .f32 x8, .float .f32 x9, .float .f32 x10, .float .f32 x11, .float .f32 x12, .float .f32 x13, .float .f32 x14, .float .f32 x15, .float .f32 x16, .float .f32 x17])⟩] => if f0 = 0 ∧ f1 = 0 ∧ f2 = 0 ∧ f3 = 4 then [(true, .float .f32 (r110e x0 x1 x2 x3 x4 x5 x6 x7 x8 x9 x10 x11 x12 x13 x14 x15 x16 x17), ⟨[⟨true, (some (.cells [.float .f32 x0, .float .f32 x1, .float .f32 x2, .float .f32 x3, .float .f32 x4, .float .f32 x5, .float .f32 x6, .float .f32 x7, .float .f32 x8, .float .f32 x9, .float .f32 x10, .float .f32 x11, .float .f32 x12, .float .f32 x13, .float .f32 x14, .float .f32 x15, .float .f32 x16, .float .f32 x17]))⟩], 1, []⟩)] else T15 110 args s
 | _, _ => T15 110 args s
noncomputable def T16 : CallF := addF T15 110 s110e
set_option maxRecDepth 100000 in
set_option maxHeartbeats 4000000 in
theorem ok16 : CfOk Try.prog T16 := by
  refine cfOk_add ok15 fun args s r s' h1 h2 h3 => ?_
  unfold s110e at h3; split at h3
  · rename_i h; split at h3
    · rename_i hc; obtain ⟨rfl, rfl, rfl, rfl⟩ := hc; exact callOk ok15 Try.func110 h1 h2 h (lfOkF_no _ _).body (e110e _ _ _ _ _ _ _ _ _ _ _ _ _ _ _ _ _ _) rfl h3
    · exact ok15 _ _ _ _ _ h1 h2 h3
  · exact ok15 _ _ _ _ _ h1 h2 h3

/-- spec.l01Mass -/
noncomputable def r110f (x0 x1 x2 x3 x4 x5 x6 x7 x8 x9 x10 x11 x12 x13 x14 x15 x16 x17 : Nat) : Nat :=
 ((fadd .f32 (fadd .f32 (fmul .f32 x5 1082130432) (fmul .f32 x17 1073741824)) 1048576000))
noncomputable def a110f (x0 x1 x2 x3 x4 x5 x6 x7 x8 x9 x10 x11 x12 x13 x14 x15 x16 x17 : Nat) (p : Nat) : Res := firstT [(true, .float .f32 p, ⟨[⟨true, (some (.cells [.float .f32 x0, .float .f32 x1, .float .f32 x2, .float .f32 x3, .float .f32 x4, .float .f32 x5, .float .f32 x6, .float .f32 x7, .float .f32 x8, .float .f32 x9, .float .f32 x10, .float .f32 x11, .float .f32 x12, .float .f32 x13, .float .f32 x14, .float .f32 x15, .float .f32 x16, .float .f32 x17]))⟩], 1, []⟩)]
noncomputable def w110f (x0 x1 x2 x3 x4 x5 x6 x7 x8 x9 x10 x11 x12 x13 x14 x15 x16 x17 : Nat) : Res :=
 (a110f x0 x1 x2 x3 x4 x5 x6 x7 x8 x9 x10 x11 x12 x13 x14 x15 x16 x17 ((fadd .f32 (fadd .f32 (fmul .f32 x5 1082130432) (fmul .f32 x17 1073741824)) 1048576000)))
set_option maxRecDepth 100000 in
set_option maxHeartbeats 4000000 in
theorem e110f (x0 x1 x2 x3 x4 x5 x6 x7 x8 x9 x10 x11 x12 x13 x14 x15 x16 x17 : Nat) : evFn Try.prog ext T16 noL 200 Try.f110 [.pointer (some ⟨0, 0, some 0⟩), .int .i64 5] ⟨[⟨true, (some (.cells [.float .f32 x0, .float .f32 x1, .float .f32 x2, .float .f32 x3, .float .f32 x4, .float .f32 x5, .float .f32 x6, .float .f32 x7, .float .f32 x8, .float .f32 x9, .float .f32 x10, .float .f32 x11, .float .f32 x12, .float .f32 x13, .float .f32 x14, .float .f32 x15, .float .f32 x16, .float .f32 x17]))⟩], 1, []⟩ = firstT [(true, .float .f32 (r110f x0 x1 x2 x3 x4 x5 x6 x7 x8 x9 x10 x11 x12 x13 x14 x15 x16 x17), ⟨[⟨true, (some (.cells [.float .f32 x0, .float .f32 x1, .float .f32 x2, .float .f32 x3, .float .f32 x4, .float .f32 x5, .float .f32 x6, .float .f32 x7, .float .f32 x8, .float .f32 x9, .float .f32 x10, .float .f32 x11, .float .f32 x12, .float .f32 x13, .float .f32 x14, .float .f32 x15, .float .f32 x16, .float .f32 x17]))⟩], 1, []⟩)] :=
 (show evFn Try.prog ext T16 noL 200 Try.f110 [.pointer (some ⟨0, 0, some 0⟩), .int .i64 5] ⟨[⟨true, (some (.cells [.float .f32 x0, .float .f32 x1, .float .f32 x2, .float .f32 x3, .float .f32 x4, .float .f32 x5, .float .f32 x6, .float .f32 x7, .float .f32 x8, .float .f32 x9, .float .f32 x10, .float .f32 x11, .float .f32 x12, .float .f32 x13, .float .f32 x14, .float .f32 x15, .float .f32 x16, .float .f32 x17]))⟩], 1, []⟩ = w110f x0 x1 x2 x3 x4 x5 x6 x7 x8 x9 x10 x11 x12 x13 x14 x15 x16 x17 from by kernel_rfl).trans
 (show w110f x0 x1 x2 x3 x4 x5 x6 x7 x8 x9 x10 x11 x12 x13 x14 x15 x16 x17 = a110f x0 x1 x2 x3 x4 x5 x6 x7 x8 x9 x10 x11 x12 x13 x14 x15 x16 x17 (r110f x0 x1 x2 x3 x4 x5 x6 x7 x8 x9 x10 x11 x12 x13 x14 x15 x16 x17) from by unfold w110f r110f; exact rfl)
noncomputable def s110f (args : List Value) (s : St) : List (Bool × Value × St) :=
 match args, s.h with
 | [.pointer (some ⟨f0, f1, some f2⟩), .int .i64 f3], [⟨true, some (.cells [.float .f32 x0, .float .f32 x1, .float .f32 x2, .float .f32 x3, .float .f32 x4, .float .f32 x5, .float .f32 x6, .float .f32 x7, .float .f32 x8, .float .f32 x9, .float .f32 x10, .float .f32 x11, .float .f32 x12, .float .f32 x13, .float .f32 x14, .float .f32 x15, .float .f32 x16, .float .f32 x17])⟩] => if f0 = 0 ∧ f1 = 0 ∧ f2 = 0 ∧ f3 = 5 then [(true, .float .f32 (r110f x0 x1 x2 x3 x4 x5 x6 x7 x8 x9 x10 x11 x12 x13 x14 x15 x16 x17), ⟨[⟨true, (some (.cells [.float .f32 x0, .float .f32 x1, .float .f32 x2, .float .f32 x3, .float .f32 x4, .float .f32 x5, .float .f32 x6, .float .f32 x7, .float .f32 x8, .float .f32 x9, .float .f32 x10, .float .f32 x11, .float .f32 x12, .float .f32 x13, .float .f32 x14, .float .f32 x15, .float .f32 x16, .float .f32 x17]))⟩], 1, []⟩)] else T16 110 args s
 | _, _ => T16 110 args s
noncomputable def T17 : CallF := addF T16 110 s110f
set_option maxRecDepth 100000 in
set_option maxHeartbeats 4000000 in
theorem ok17 : CfOk Try.prog T17 := by
  refine cfOk_add ok16 fun args s r s' h1 h2 h3 => ?_
  unfold s110f at h3; split at h3
  · rename_i h; split at h3
    · rename_i hc; obtain ⟨rfl, rfl, rfl, rfl⟩ := hc; exact callOk ok16 Try.func110 h1 h2 h (lfOkF_no _ _).body (e110f _ _ _ _ _ _ _ _ _ _ _ _ _ _ _ _ _ _) rfl h3
    · exact ok16 _ _ _ _ _ h1 h2 h3
  · exact ok16 _ _ _ _ _ h1 h2 h3

/-- spec.l01Warm -/
noncomputable def r103 (x0 x1 x2 x3 x4 x5 x6 x7 x8 x9 x10 x11 x12 x13 x14 x15 x16 x17 x18 x19 : Nat) : Nat × Nat × Nat × Nat × Nat × Nat × Nat × Nat × Nat × Nat × Nat × Nat × Nat × Nat × Nat × Nat × Nat × Nat × Nat × Int :=
 let c0 := (r118 (fadd .f32 x8 (fdiv .f32 (fsub .f32 (fmul .f32 (fmul .f32 1056964608 (fsub .f32 x0 x8)) x1) (fmul .f32 (fmul .f32 1048576000 (fsub .f32 x8 x9)) x1)) (r110 x2 x3 x4 x5 x6 x7 x8 x9 x10 x11 x12 x13 x14 x15 x16 x17 x18 x19))) 3262119936 1153138688)
 let c1 := (r118 (fadd .f32 x9 (fdiv .f32 (fsub .f32 (fmul .f32 (fmul .f32 1048576000 (fsub .f32 x8 x9)) x1) (fmul .f32 (fmul .f32 1048576000 (fsub .f32 x9 x10)) x1)) (r110b x2 x3 x4 x5 x6 x7 x8 x9 x10 x11 x12 x13 x14 x15 x16 x17 x18 x19))) 3262119936 1153138688)
 let c2 := (r118 (fadd .f32 x10 (fdiv .f32 (fsub .f32 (fmul .f32 (fmul .f32 1048576000 (fsub .f32 x9 x10)) x1) (fmul .f32 (fmul .f32 1048576000 (fsub .f32 x10 x11)) x1)) (r110c x2 x3 x4 x5 x6 x7 x8 x9 x10 x11 x12 x13 x14 x15 x16 x17 x18 x19))) 3262119936 1153138688)
 let c3 := (r118 (fadd .f32 x11 (fdiv .f32 (fsub .f32 (fmul .f32 (fmul .f32 1048576000 (fsub .f32 x10 x11)) x1) (fmul .f32 (fmul .f32 1048576000 (fsub .f32 x11 x12)) x1)) (r110d x2 x3 x4 x5 x6 x7 x8 x9 x10 x11 x12 x13 x14 x15 x16 x17 x18 x19))) 3262119936 1153138688)
 let c4 := (r118 (fadd .f32 x12 (fdiv .f32 (fsub .f32 (fmul .f32 (fmul .f32 1048576000 (fsub .f32 x11 x12)) x1) (fmul .f32 (fmul .f32 1048576000 (fsub .f32 x12 x13)) x1)) (r110e x2 x3 x4 x5 x6 x7 x8 x9 x10 x11 x12 x13 x14 x15 x16 x17 x18 x19))) 3262119936 1153138688)
 let c5 := (r118 (fadd .f32 x13 (fdiv .f32 (fsub .f32 (fmul .f32 (fmul .f32 1048576000 (fsub .f32 x12 x13)) x1) 0) (r110f x2 x3 x4 x5 x6 x7 x8 x9 x10 x11 x12 x13 x14 x15 x16 x17 x18 x19))) 3262119936 1153138688)
 cond (!(r102 (fmul .f32 (fmul .f32 1056964608 (fsub .f32 x0 x8)) x1)))
  (0, 0, 0, 0, 0, 0, 0, 0, 0, 0, 0, 0, 0, 0, 0, 0, 0, 0, 0, 4)
  (x2, x3, x4, x5, x6, x7, c0, c1, c2, c3, c4, c5, x14, x15, x16, x17, x18, x19, (fmul .f32 (fmul .f32 1056964608 (fsub .f32 x0 x8)) x1), 0)
noncomputable def a103 (x0 x1 x2 x3 x4 x5 x6 x7 x8 x9 x10 x11 x12 x13 x14 x15 x16 x17 x18 x19 : Nat) (p : Nat × Nat × Nat × Nat × Nat × Nat × Nat × Nat × Nat × Nat × Nat × Nat × Nat × Nat × Nat × Nat × Nat × Nat × Nat × Int) : Res := firstT [(true, .tuple #[.agg #[.float .f32 (p.1), .float .f32 (p.2.1), .float .f32 (p.2.2.1), .float .f32 (p.2.2.2.1), .float .f32 (p.2.2.2.2.1), .float .f32 (p.2.2.2.2.2.1), .float .f32 (p.2.2.2.2.2.2.1), .float .f32 (p.2.2.2.2.2.2.2.1), .float .f32 (p.2.2.2.2.2.2.2.2.1), .float .f32 (p.2.2.2.2.2.2.2.2.2.1), .float .f32 (p.2.2.2.2.2.2.2.2.2.2.1), .float .f32 (p.2.2.2.2.2.2.2.2.2.2.2.1), .float .f32 (p.2.2.2.2.2.2.2.2.2.2.2.2.1), .float .f32 (p.2.2.2.2.2.2.2.2.2.2.2.2.2.1), .float .f32 (p.2.2.2.2.2.2.2.2.2.2.2.2.2.2.1), .float .f32 (p.2.2.2.2.2.2.2.2.2.2.2.2.2.2.2.1), .float .f32 (p.2.2.2.2.2.2.2.2.2.2.2.2.2.2.2.2.1), .float .f32 (p.2.2.2.2.2.2.2.2.2.2.2.2.2.2.2.2.2.1)], .float .f32 (p.2.2.2.2.2.2.2.2.2.2.2.2.2.2.2.2.2.2.1), .int .i64 (p.2.2.2.2.2.2.2.2.2.2.2.2.2.2.2.2.2.2.2)], ⟨[⟨true, (some (.cells [.float .f32 x2, .float .f32 x3, .float .f32 x4, .float .f32 x5, .float .f32 x6, .float .f32 x7, .float .f32 x8, .float .f32 x9, .float .f32 x10, .float .f32 x11, .float .f32 x12, .float .f32 x13, .float .f32 x14, .float .f32 x15, .float .f32 x16, .float .f32 x17, .float .f32 x18, .float .f32 x19]))⟩], 1, []⟩)]
noncomputable def w103 (x0 x1 x2 x3 x4 x5 x6 x7 x8 x9 x10 x11 x12 x13 x14 x15 x16 x17 x18 x19 : Nat) : Res :=
 let c0 := (r118 (fadd .f32 x8 (fdiv .f32 (fsub .f32 (fmul .f32 (fmul .f32 1056964608 (fsub .f32 x0 x8)) x1) (fmul .f32 (fmul .f32 1048576000 (fsub .f32 x8 x9)) x1)) (r110 x2 x3 x4 x5 x6 x7 x8 x9 x10 x11 x12 x13 x14 x15 x16 x17 x18 x19))) 3262119936 1153138688)
 let c1 := (r118 (fadd .f32 x9 (fdiv .f32 (fsub .f32 (fmul .f32 (fmul .f32 1048576000 (fsub .f32 x8 x9)) x1) (fmul .f32 (fmul .f32 1048576000 (fsub .f32 x9 x10)) x1)) (r110b x2 x3 x4 x5 x6 x7 x8 x9 x10 x11 x12 x13 x14 x15 x16 x17 x18 x19))) 3262119936 1153138688)
 let c2 := (r118 (fadd .f32 x10 (fdiv .f32 (fsub .f32 (fmul .f32 (fmul .f32 1048576000 (fsub .f32 x9 x10)) x1) (fmul .f32 (fmul .f32 1048576000 (fsub .f32 x10 x11)) x1)) (r110c x2 x3 x4 x5 x6 x7 x8 x9 x10 x11 x12 x13 x14 x15 x16 x17 x18 x19))) 3262119936 1153138688)
 let c3 := (r118 (fadd .f32 x11 (fdiv .f32 (fsub .f32 (fmul .f32 (fmul .f32 1048576000 (fsub .f32 x10 x11)) x1) (fmul .f32 (fmul .f32 1048576000 (fsub .f32 x11 x12)) x1)) (r110d x2 x3 x4 x5 x6 x7 x8 x9 x10 x11 x12 x13 x14 x15 x16 x17 x18 x19))) 3262119936 1153138688)
 let c4 := (r118 (fadd .f32 x12 (fdiv .f32 (fsub .f32 (fmul .f32 (fmul .f32 1048576000 (fsub .f32 x11 x12)) x1) (fmul .f32 (fmul .f32 1048576000 (fsub .f32 x12 x13)) x1)) (r110e x2 x3 x4 x5 x6 x7 x8 x9 x10 x11 x12 x13 x14 x15 x16 x17 x18 x19))) 3262119936 1153138688)
 let c5 := (r118 (fadd .f32 x13 (fdiv .f32 (fsub .f32 (fmul .f32 (fmul .f32 1048576000 (fsub .f32 x12 x13)) x1) 0) (r110f x2 x3 x4 x5 x6 x7 x8 x9 x10 x11 x12 x13 x14 x15 x16 x17 x18 x19))) 3262119936 1153138688)
 (cond (!(r102 (fmul .f32 (fmul .f32 1056964608 (fsub .f32 x0 x8)) x1)))
 (a103 x0 x1 x2 x3 x4 x5 x6 x7 x8 x9 x10 x11 x12 x13 x14 x15 x16 x17 x18 x19 (0, 0, 0, 0, 0, 0, 0, 0, 0, 0, 0, 0, 0, 0, 0, 0, 0, 0, 0, 4))
 (a103 x0 x1 x2 x3 x4 x5 x6 x7 x8 x9 x10 x11 x12 x13 x14 x15 x16 x17 x18 x19 (x2, x3, x4, x5, x6, x7, c0, c1, c2, c3, c4, c5, x14, x15, x16, x17, x18, x19, (fmul .f32 (fmul .f32 1056964608 (fsub .f32 x0 x8)) x1), 0)))
set_option maxRecDepth 100000 in
set_option maxHeartbeats 4000000 in
theorem e103 (x0 x1 x2 x3 x4 x5 x6 x7 x8 x9 x10 x11 x12 x13 x14 x15 x16 x17 x18 x19 : Nat) : evFn Try.prog ext T17 noL 200 Try.f103 [.pointer (some ⟨0, 0, some 0⟩), .float .f32 x0, .float .f32 x1] ⟨[⟨true, (some (.cells [.float .f32 x2, .float .f32 x3, .float .f32 x4, .float .f32 x5, .float .f32 x6, .float .f32 x7, .float .f32 x8, .float .f32 x9, .float .f32 x10, .float .f32 x11, .float .f32 x12, .float .f32 x13, .float .f32 x14, .float .f32 x15, .float .f32 x16, .float .f32 x17, .float .f32 x18, .float .f32 x19]))⟩], 1, []⟩ = firstT [(true, .tuple #[.agg #[.float .f32 ((r103 x0 x1 x2 x3 x4 x5 x6 x7 x8 x9 x10 x11 x12 x13 x14 x15 x16 x17 x18 x19).1), .float .f32 ((r103 x0 x1 x2 x3 x4 x5 x6 x7 x8 x9 x10 x11 x12 x13 x14 x15 x16 x17 x18 x19).2.1), .float .f32 ((r103 x0 x1 x2 x3 x4 x5 x6 x7 x8 x9 x10 x11 x12 x13 x14 x15 x16 x17 x18 x19).2.2.1), .float .f32 ((r103 x0 x1 x2 x3 x4 x5 x6 x7 x8 x9 x10 x11 x12 x13 x14 x15 x16 x17 x18 x19).2.2.2.1), .float .f32 ((r103 x0 x1 x2 x3 x4 x5 x6 x7 x8 x9 x10 x11 x12 x13 x14 x15 x16 x17 x18 x19).2.2.2.2.1), .float .f32 ((r103 x0 x1 x2 x3 x4 x5 x6 x7 x8 x9 x10 x11 x12 x13 x14 x15 x16 x17 x18 x19).2.2.2.2.2.1), .float .f32 ((r103 x0 x1 x2 x3 x4 x5 x6 x7 x8 x9 x10 x11 x12 x13 x14 x15 x16 x17 x18 x19).2.2.2.2.2.2.1), .float .f32 ((r103 x0 x1 x2 x3 x4 x5 x6 x7 x8 x9 x10 x11 x12 x13 x14 x15 x16 x17 x18 x19).2.2.2.2.2.2.2.1), .float .f32 ((r103 x0 x1 x2 x3 x4 x5 x6 x7 x8 x9 x10 x11 x12 x13 x14 x15 x16 x17 x18 x19).2.2.2.2.2.2.2.2.1), .float .f32 ((r103 x0 x1 x2 x3 x4 x5 x6 x7 x8 x9 x10 x11 x12 x13 x14 x15 x16 x17 x18 x19).2.2.2.2.2.2.2.2.2.1), .float .f32 ((r103 x0 x1 x2 x3 x4 x5 x6 x7 x8 x9 x10 x11 x12 x13 x14 x15 x16 x17 x18 x19).2.2.2.2.2.2.2.2.2.2.1), .float .f32 ((r103 x0 x1 x2 x3 x4 x5 x6 x7 x8 x9 x10 x11 x12 x13 x14 x15 x16 x17 x18 x19).2.2.2.2.2.2.2.2.2.2.2.1), .float .f32 ((r103 x0 x1 x2 x3 x4 x5 x6 x7 x8 x9 x10 x11 x12 x13 x14 x15 x16 x17 x18 x19).2.2.2.2.2.2.2.2.2.2.2.2.1), .float .f32 ((r103 x0 x1 x2 x3 x4 x5 x6 x7 x8 x9 x10 x11 x12 x13 x14 x15 x16 x17 x18 x19).2.2.2.2.2.2.2.2.2.2.2.2.2.1), .float .f32 ((r103 x0 x1 x2 x3 x4 x5 x6 x7 x8 x9 x10 x11 x12 x13 x14 x15 x16 x17 x18 x19).2.2.2.2.2.2.2.2.2.2.2.2.2.2.1), .float .f32 ((r103 x0 x1 x2 x3 x4 x5 x6 x7 x8 x9 x10 x11 x12 x13 x14 x15 x16 x17 x18 x19).2.2.2.2.2.2.2.2.2.2.2.2.2.2.2.1), .float .f32 ((r103 x0 x1 x2 x3 x4 x5 x6 x7 x8 x9 x10 x11 x12 x13 x14 x15 x16 x17 x18 x19).2.2.2.2.2.2.2.2.2.2.2.2.2.2.2.2.1), .float .f32 ((r103 x0 x1 x2 x3 x4 x5 x6 x7 x8 x9 x10 x11 x12 x13 x14 x15 x16 x17 x18 x19).2.2.2.2.2.2.2.2.2.2.2.2.2.2.2.2.2.1)], .float .f32 ((r103 x0 x1 x2 x3 x4 x5 x6 x7 x8 x9 x10 x11 x12 x13 x14 x15 x16 x17 x18 x19).2.2.2.2.2.2.2.2.2.2.2.2.2.2.2.2.2.2.1), .int .i64 ((r103 x0 x1 x2 x3 x4 x5 x6 x7 x8 x9 x10 x11 x12 x13 x14 x15 x16 x17 x18 x19).2.2.2.2.2.2.2.2.2.2.2.2.2.2.2.2.2.2.2)], ⟨[⟨true, (some (.cells [.float .f32 x2, .float .f32 x3, .float .f32 x4, .float .f32 x5, .float .f32 x6, .float .f32 x7, .float .f32 x8, .float .f32 x9, .float .f32 x10, .float .f32 x11, .float .f32 x12, .float .f32 x13, .float .f32 x14, .float .f32 x15, .float .f32 x16, .float .f32 x17, .float .f32 x18, .float .f32 x19]))⟩], 1, []⟩)] :=
 (show evFn Try.prog ext T17 noL 200 Try.f103 [.pointer (some ⟨0, 0, some 0⟩), .float .f32 x0, .float .f32 x1] ⟨[⟨true, (some (.cells [.float .f32 x2, .float .f32 x3, .float .f32 x4, .float .f32 x5, .float .f32 x6, .float .f32 x7, .float .f32 x8, .float .f32 x9, .float .f32 x10, .float .f32 x11, .float .f32 x12, .float .f32 x13, .float .f32 x14, .float .f32 x15, .float .f32 x16, .float .f32 x17, .float .f32 x18, .float .f32 x19]))⟩], 1, []⟩ = w103 x0 x1 x2 x3 x4 x5 x6 x7 x8 x9 x10 x11 x12 x13 x14 x15 x16 x17 x18 x19 from by kernel_rfl).trans
 (show w103 x0 x1 x2 x3 x4 x5 x6 x7 x8 x9 x10 x11 x12 x13 x14 x15 x16 x17 x18 x19 = a103 x0 x1 x2 x3 x4 x5 x6 x7 x8 x9 x10 x11 x12 x13 x14 x15 x16 x17 x18 x19 (r103 x0 x1 x2 x3 x4 x5 x6 x7 x8 x9 x10 x11 x12 x13 x14 x15 x16 x17 x18 x19) from by unfold w103 r103; exact (cond_app (a103 x0 x1 x2 x3 x4 x5 x6 x7 x8 x9 x10 x11 x12 x13 x14 x15 x16 x17 x18 x19) _ rfl rfl))
noncomputable def s103 (args : List Value) (s : St) : List (Bool × Value × St) :=
 match args, s.h with
 | [.pointer (some ⟨f0, f1, some f2⟩), .float .f32 x0, .float .f32 x1], [⟨true, some (.cells [.float .f32 x2, .float .f32 x3, .float .f32 x4, .float .f32 x5, .float .f32 x6, .float .f32 x7, .float .f32 x8, .float .f32 x9, .float .f32 x10, .float .f32 x11, .float .f32 x12, .float .f32 x13, .float .f32 x14, .float .f32 x15, .float .f32 x16, .float .f32 x17, .float .f32 x18, .float .f32 x19])⟩] => if f0 = 0 ∧ f1 = 0 ∧ f2 = 0 then [(true, .tuple #[.agg #[.float .f32 ((r103 x0 x1 x2 x3 x4 x5 x6 x7 x8 x9 x10 x11 x12 x13 x14 x15 x16 x17 x18 x19).1), .float .f32 ((r103 x0 x1 x2 x3 x4 x5 x6 x7 x8 x9 x10 x11 x12 x13 x14 x15 x16 x17 x18 x19).2.1), .float .f32 ((r103 x0 x1 x2 x3 x4 x5 x6 x7 x8 x9 x10 x11 x12 x13 x14 x15 x16 x17 x18 x19).2.2.1), .float .f32 ((r103 x0 x1 x2 x3 x4 x5 x6 x7 x8 x9 x10 x11 x12 x13 x14 x15 x16 x17 x18 x19).2.2.2.1), .float .f32 ((r103 x0 x1 x2 x3 x4 x5 x6 x7 x8 x9 x10 x11 x12 x13 x14 x15 x16 x17 x18 x19).2.2.2.2.1), .float .f32 ((r103 x0 x1 x2 x3 x4 x5 x6 x7 x8 x9 x10 x11 x12 x13 x14 x15 x16 x17 x18 x19).2.2.2.2.2.1), .float .f32 ((r103 x0 x1 x2 x3 x4 x5 x6 x7 x8 x9 x10 x11 x12 x13 x14 x15 x16 x17 x18 x19).2.2.2.2.2.2.1), .float .f32 ((r103 x0 x1 x2 x3 x4 x5 x6 x7 x8 x9 x10 x11 x12 x13 x14 x15 x16 x17 x18 x19).2.2.2.2.2.2.2.1), .float .f32 ((r103 x0 x1 x2 x3 x4 x5 x6 x7 x8 x9 x10 x11 x12 x13 x14 x15 x16 x17 x18 x19).2.2.2.2.2.2.2.2.1), .float .f32 ((r103 x0 x1 x2 x3 x4 x5 x6 x7 x8 x9 x10 x11 x12 x13 x14 x15 x16 x17 x18 x19).2.2.2.2.2.2.2.2.2.1), .float .f32 ((r103 x0 x1 x2 x3 x4 x5 x6 x7 x8 x9 x10 x11 x12 x13 x14 x15 x16 x17 x18 x19).2.2.2.2.2.2.2.2.2.2.1), .float .f32 ((r103 x0 x1 x2 x3 x4 x5 x6 x7 x8 x9 x10 x11 x12 x13 x14 x15 x16 x17 x18 x19).2.2.2.2.2.2.2.2.2.2.2.1), .float .f32 ((r103 x0 x1 x2 x3 x4 x5 x6 x7 x8 x9 x10 x11 x12 x13 x14 x15 x16 x17 x18 x19).2.2.2.2.2.2.2.2.2.2.2.2.1), .float .f32 ((r103 x0 x1 x2 x3 x4 x5 x6 x7 x8 x9 x10 x11 x12 x13 x14 x15 x16 x17 x18 x19).2.2.2.2.2.2.2.2.2.2.2.2.2.1), .float .f32 ((r103 x0 x1 x2 x3 x4 x5 x6 x7 x8 x9 x10 x11 x12 x13 x14 x15 x16 x17 x18 x19).2.2.2.2.2.2.2.2.2.2.2.2.2.2.1), .float .f32 ((r103 x0 x1 x2 x3 x4 x5 x6 x7 x8 x9 x10 x11 x12 x13 x14 x15 x16 x17 x18 x19).2.2.2.2.2.2.2.2.2.2.2.2.2.2.2.1), .float .f32 ((r103 x0 x1 x2 x3 x4 x5 x6 x7 x8 x9 x10 x11 x12 x13 x14 x15 x16 x17 x18 x19).2.2.2.2.2.2.2.2.2.2.2.2.2.2.2.2.1), .float .f32 ((r103 x0 x1 x2 x3 x4 x5 x6 x7 x8 x9 x10 x11 x12 x13 x14 x15 x16 x17 x18 x19).2.2.2.2.2.2.2.2.2.2.2.2.2.2.2.2.2.1)], .float .f32 ((r103 x0 x1 x2 x3 x4 x5 x6 x7 x8 x9 x10 x11 x12 x13 x14 x15 x16 x17 x18 x19).2.2.2.2.2.2.2.2.2.2.2.2.2.2.2.2.2.2.1), .int .i64 ((r103 x0 x1 x2 x3 x4 x5 x6 x7 x8 x9 x10 x11 x12 x13 x14 x15 x16 x17 x18 x19).2.2.2.2.2.2.2.2.2.2.2.2.2.2.2.2.2.2.2)], ⟨[⟨true, (some (.cells [.float .f32 x2, .float .f32 x3, .float .f32 x4, .float .f32 x5, .float .f32 x6, .float .f32 x7, .float .f32 x8, .float .f32 x9, .float .f32 x10, .float .f32 x11, .float .f32 x12, .float .f32 x13, .float .f32 x14, .float .f32 x15, .float .f32 x16, .float .f32 x17, .float .f32 x18, .float .f32 x19]))⟩], 1, []⟩)] else T17 103 args s
 | _, _ => T17 103 args s
noncomputable def T18 : CallF := addF T17 103 s103
set_option maxRecDepth 100000 in
set_option maxHeartbeats 4000000 in
theorem ok18 : CfOk Try.prog T18 := by
  refine cfOk_add ok17 fun args s r s' h1 h2 h3 => ?_
  unfold s103 at h3; split at h3
  · rename_i h; split at h3
    · rename_i hc; obtain ⟨rfl, rfl, rfl⟩ := hc; exact callOk ok17 Try.func103 h1 h2 h (lfOkF_no _ _).body (e103 _ _ _ _ _ _ _ _ _ _ _ _ _ _ _ _ _ _ _ _) rfl h3
    · exact ok17 _ _ _ _ _ h1 h2 h3
  · exact ok17 _ _ _ _ _ h1 h2 h3

/-- spec.l01Less -/
noncomputable def r109 (x0 x1 : Nat) : Nat :=
 cond (flt .f32 x1 x0)
  (x1)
  (x0)
noncomputable def a109 (x0 x1 : Nat) (p : Nat) : Res := firstT [(true, .float .f32 p, st0)]
noncomputable def w109 (x0 x1 : Nat) : Res :=
 (cond (flt .f32 x1 x0)
 (a109 x0 x1 (x1))
 (a109 x0 x1 (x0)))
set_option maxRecDepth 100000 in
set_option maxHeartbeats 4000000 in
theorem e109 (x0 x1 : Nat) : evFn Try.prog ext T18 noL 200 Try.f109 [.float .f32 x0, .float .f32 x1] st0 = firstT [(true, .float .f32 (r109 x0 x1), st0)] :=
 (show evFn Try.prog ext T18 noL 200 Try.f109 [.float .f32 x0, .float .f32 x1] st0 = w109 x0 x1 from by kernel_rfl).trans
 (show w109 x0 x1 = a109 x0 x1 (r109 x0 x1) from by unfold w109 r109; exact (cond_app (a109 x0 x1) _ rfl rfl))
noncomputable def s109 (args : List Value) (s : St) : List (Bool × Value × St) :=
 match args, s.h with
 | [.float .f32 x0, .float .f32 x1], [] => [(true, .float .f32 (r109 x0 x1), st0)]
 | _, _ => T18 109 args s
noncomputable def T19 : CallF := addF T18 109 s109
set_option maxRecDepth 100000 in
set_option maxHeartbeats 4000000 in
theorem ok19 : CfOk Try.prog T19 := by
  refine cfOk_add ok18 fun args s r s' h1 h2 h3 => ?_
  unfold s109 at h3; split at h3
  · rename_i h; exact callOk ok18 Try.func109 h1 h2 h (lfOkF_no _ _).body (e109 _ _) rfl h3
  · exact ok18 _ _ _ _ _ h1 h2 h3

/-- spec.l01Dry, loop 0 -/
noncomputable def r80l0 (x0 x1 x2 x3 x4 x5 x6 x7 x8 x9 x10 x11 x12 x13 x14 x15 x16 x17 x18 x19 x20 x21 x22 x23 x24 x25 x26 x27 x28 x29 x30 x31 x32 x33 x34 x35 x36 x37 x38 x39 x40 x41 x42 x43 x44 x45 x46 x47 x48 x49 x50 x51 x52 x53 x54 x55 : Nat) : Unit :=
 ()
noncomputable def a80l0 (x0 x1 x2 x3 x4 x5 x6 x7 x8 x9 x10 x11 x12 x13 x14 x15 x16 x17 x18 x19 x20 x21 x22 x23 x24 x25 x26 x27 x28 x29 x30 x31 x32 x33 x34 x35 x36 x37 x38 x39 x40 x41 x42 x43 x44 x45 x46 x47 x48 x49 x50 x51 x52 x53 x54 x55 : Nat) (p : Unit) : Option (Fin' × List Value × St) := firstT ([(true, .exit 0, [.pointer (some ⟨1, 0, some 0⟩), .pointer (some ⟨2, 0, some 0⟩), .float .f32 x1], ⟨[⟨true, (some (.cells [.float .f32 x2, .float .f32 x3, .float .f32 x4, .float .f32 x5, .float .f32 x6, .float .f32 x7, .float .f32 x8, .float .f32 x9, .float .f32 x10, .float .f32 x11, .float .f32 x12, .float .f32 x13, .float .f32 x14, .float .f32 x15, .float .f32 x16, .float .f32 x17, .float .f32 x18, .float .f32 x19]))⟩, ⟨true, (some (.cells [.float .f32 x20, .float .f32 x21, .float .f32 x22, .float .f32 x23, .float .f32 x24, .float .f32 x25, .float .f32 x26, .float .f32 x27, .float .f32 x28, .float .f32 x29, .float .f32 x30, .float .f32 x31, .float .f32 x32, .float .f32 x33, .float .f32 x34, .float .f32 x35, .float .f32 x36, .float .f32 x37]))⟩, ⟨true, (some (.cells [.float .f32 x38, .float .f32 x39, .float .f32 x40, .float .f32 x41, .float .f32 x42, .float .f32 x43, .float .f32 x44, .float .f32 x45, .float .f32 x46, .float .f32 x47, .float .f32 x48, .float .f32 x49, .float .f32 x50, .float .f32 x51, .float .f32 x52, .float .f32 x53, .float .f32 x54, .float .f32 x55]))⟩], 3, []⟩)].map fun (b, x) => (b, (x.1, frameOf 80 [4, 6, 7] x.2.1, x.2.2)))
noncomputable def w80l0 (x0 x1 x2 x3 x4 x5 x6 x7 x8 x9 x10 x11 x12 x13 x14 x15 x16 x17 x18 x19 x20 x21 x22 x23 x24 x25 x26 x27 x28 x29 x30 x31 x32 x33 x34 x35 x36 x37 x38 x39 x40 x41 x42 x43 x44 x45 x46 x47 x48 x49 x50 x51 x52 x53 x54 x55 : Nat) : Option (Fin' × List Value × St) :=
 (a80l0 x0 x1 x2 x3 x4 x5 x6 x7 x8 x9 x10 x11 x12 x13 x14 x15 x16 x17 x18 x19 x20 x21 x22 x23 x24 x25 x26 x27 x28 x29 x30 x31 x32 x33 x34 x35 x36 x37 x38 x39 x40 x41 x42 x43 x44 x45 x46 x47 x48 x49 x50 x51 x52 x53 x54 x55 ())
set_option maxRecDepth 100000 in
set_option maxHeartbeats 4000000 in
theorem e80l0 (x0 x1 x2 x3 x4 x5 x6 x7 x8 x9 x10 x11 x12 x13 x14 x15 x16 x17 x18 x19 x20 x21 x22 x23 x24 x25 x26 x27 x28 x29 x30 x31 x32 x33 x34 x35 x36 x37 x38 x39 x40 x41 x42 x43 x44 x45 x46 x47 x48 x49 x50 x51 x52 x53 x54 x55 : Nat) : evC Try.prog ext T19 noL 200 (loopN Try.f80 0) (loopTail ([0, 1, 4, 6, 7, 8], []) [4, 6, 7] [] (sumK 80 [0, 1, 4, 6, 7, 8] [4, 6, 7] noQ)) (frameOf 80 [0, 1, 4, 6, 7, 8] [.pointer (some ⟨0, 0, some 0⟩), .float .f32 x0, .pointer (some ⟨1, 0, some 0⟩), .pointer (some ⟨2, 0, some 0⟩), .float .f32 x1, .int .i64 6]) ⟨[⟨true, (some (.cells [.float .f32 x2, .float .f32 x3, .float .f32 x4, .float .f32 x5, .float .f32 x6, .float .f32 x7, .float .f32 x8, .float .f32 x9, .float .f32 x10, .float .f32 x11, .float .f32 x12, .float .f32 x13, .float .f32 x14, .float .f32 x15, .float .f32 x16, .float .f32 x17, .float .f32 x18, .float .f32 x19]))⟩, ⟨true, (some (.cells [.float .f32 x20, .float .f32 x21, .float .f32 x22, .float .f32 x23, .float .f32 x24, .float .f32 x25, .float .f32 x26, .float .f32 x27, .float .f32 x28, .float .f32 x29, .float .f32 x30, .float .f32 x31, .float .f32 x32, .float .f32 x33, .float .f32 x34, .float .f32 x35, .float .f32 x36, .float .f32 x37]))⟩, ⟨true, (some (.cells [.float .f32 x38, .float .f32 x39, .float .f32 x40, .float .f32 x41, .float .f32 x42, .float .f32 x43, .float .f32 x44, .float .f32 x45, .float .f32 x46, .float .f32 x47, .float .f32 x48, .float .f32 x49, .float .f32 x50, .float .f32 x51, .float .f32 x52, .float .f32 x53, .float .f32 x54, .float .f32 x55]))⟩], 3, []⟩ = firstT ([(true, .exit 0, [.pointer (some ⟨1, 0, some 0⟩), .pointer (some ⟨2, 0, some 0⟩), .float .f32 x1], ⟨[⟨true, (some (.cells [.float .f32 x2, .float .f32 x3, .float .f32 x4, .float .f32 x5, .float .f32 x6, .float .f32 x7, .float .f32 x8, .float .f32 x9, .float .f32 x10, .float .f32 x11, .float .f32 x12, .float .f32 x13, .float .f32 x14, .float .f32 x15, .float .f32 x16, .float .f32 x17, .float .f32 x18, .float .f32 x19]))⟩, ⟨true, (some (.cells [.float .f32 x20, .float .f32 x21, .float .f32 x22, .float .f32 x23, .float .f32 x24, .float .f32 x25, .float .f32 x26, .float .f32 x27, .float .f32 x28, .float .f32 x29, .float .f32 x30, .float .f32 x31, .float .f32 x32, .float .f32 x33, .float .f32 x34, .float .f32 x35, .float .f32 x36, .float .f32 x37]))⟩, ⟨true, (some (.cells [.float .f32 x38, .float .f32 x39, .float .f32 x40, .float .f32 x41, .float .f32 x42, .float .f32 x43, .float .f32 x44, .float .f32 x45, .float .f32 x46, .float .f32 x47, .float .f32 x48, .float .f32 x49, .float .f32 x50, .float .f32 x51, .float .f32 x52, .float .f32 x53, .float .f32 x54, .float .f32 x55]))⟩], 3, []⟩)].map fun (b, x) => (b, (x.1, frameOf 80 [4, 6, 7] x.2.1, x.2.2))) :=
 (show evC Try.prog ext T19 noL 200 (loopN Try.f80 0) (loopTail ([0, 1, 4, 6, 7, 8], []) [4, 6, 7] [] (sumK 80 [0, 1, 4, 6, 7, 8] [4, 6, 7] noQ)) (frameOf 80 [0, 1, 4, 6, 7, 8] [.pointer (some ⟨0, 0, some 0⟩), .float .f32 x0, .pointer (some ⟨1, 0, some 0⟩), .pointer (some ⟨2, 0, some 0⟩), .float .f32 x1, .int .i64 6]) ⟨[⟨true, (some (.cells [.float .f32 x2, .float .f32 x3, .float .f32 x4, .float .f32 x5, .float .f32 x6, .float .f32 x7, .float .f32 x8, .float .f32 x9, .float .f32 x10, .float .f32 x11, .float .f32 x12, .float .f32 x13, .float .f32 x14, .float .f32 x15, .float .f32 x16, .float .f32 x17, .float .f32 x18, .float .f32 x19]))⟩, ⟨true, (some (.cells [.float .f32 x20, .float .f32 x21, .float .f32 x22, .float .f32 x23, .float .f32 x24, .float .f32 x25, .float .f32 x26, .float .f32 x27, .float .f32 x28, .float .f32 x29, .float .f32 x30, .float .f32 x31, .float .f32 x32, .float .f32 x33, .float .f32 x34, .float .f32 x35, .float .f32 x36, .float .f32 x37]))⟩, ⟨true, (some (.cells [.float .f32 x38, .float .f32 x39, .float .f32 x40, .float .f32 x41, .float .f32 x42, .float .f32 x43, .float .f32 x44, .float .f32 x45, .float .f32 x46, .float .f32 x47, .float .f32 x48, .float .f32 x49, .float .f32 x50, .float .f32 x51, .float .f32 x52, .float .f32 x53, .float .f32 x54, .float .f32 x55]))⟩], 3, []⟩ = w80l0 x0 x1 x2 x3 x4 x5 x6 x7 x8 x9 x10 x11 x12 x13 x14 x15 x16 x17 x18 x19 x20 x21 x22 x23 x24 x25 x26 x27 x28 x29 x30 x31 x32 x33 x34 x35 x36 x37 x38 x39 x40 x41 x42 x43 x44 x45 x46 x47 x48 x49 x50 x51 x52 x53 x54 x55 from by kernel_rfl).trans
 (show w80l0 x0 x1 x2 x3 x4 x5 x6 x7 x8 x9 x10 x11 x12 x13 x14 x15 x16 x17 x18 x19 x20 x21 x22 x23 x24 x25 x26 x27 x28 x29 x30 x31 x32 x33 x34 x35 x36 x37 x38 x39 x40 x41 x42 x43 x44 x45 x46 x47 x48 x49 x50 x51 x52 x53 x54 x55 = a80l0 x0 x1 x2 x3 x4 x5 x6 x7 x8 x9 x10 x11 x12 x13 x14 x15 x16 x17 x18 x19 x20 x21 x22 x23 x24 x25 x26 x27 x28 x29 x30 x31 x32 x33 x34 x35 x36 x37 x38 x39 x40 x41 x42 x43 x44 x45 x46 x47 x48 x49 x50 x51 x52 x53 x54 x55 (r80l0 x0 x1 x2 x3 x4 x5 x6 x7 x8 x9 x10 x11 x12 x13 x14 x15 x16 x17 x18 x19 x20 x21 x22 x23 x24 x25 x26 x27 x28 x29 x30 x31 x32 x33 x34 x35 x36 x37 x38 x39 x40 x41 x42 x43 x44 x45 x46 x47 x48 x49 x50 x51 x52 x53 x54 x55) from by unfold w80l0 r80l0; exact rfl)
noncomputable def Q80l0 : SumK := fun vals s =>
 match vals, s.h with
 | [.pointer (some ⟨f0, f1, some f2⟩), .float .f32 x0, .pointer (some ⟨f3, f4, some f5⟩), .pointer (some ⟨f6, f7, some f8⟩), .float .f32 x1, .int .i64 f9], [⟨true, some (.cells [.float .f32 x2, .float .f32 x3, .float .f32 x4, .float .f32 x5, .float .f32 x6, .float .f32 x7, .float .f32 x8, .float .f32 x9, .float .f32 x10, .float .f32 x11, .float .f32 x12, .float .f32 x13, .float .f32 x14, .float .f32 x15, .float .f32 x16, .float .f32 x17, .float .f32 x18, .float .f32 x19])⟩, ⟨true, some (.cells [.float .f32 x20, .float .f32 x21, .float .f32 x22, .float .f32 x23, .float .f32 x24, .float .f32 x25, .float .f32 x26, .float .f32 x27, .float .f32 x28, .float .f32 x29, .float .f32 x30, .float .f32 x31, .float .f32 x32, .float .f32 x33, .float .f32 x34, .float .f32 x35, .float .f32 x36, .float .f32 x37])⟩, ⟨true, some (.cells [.float .f32 x38, .float .f32 x39, .float .f32 x40, .float .f32 x41, .float .f32 x42, .float .f32 x43, .float .f32 x44, .float .f32 x45, .float .f32 x46, .float .f32 x47, .float .f32 x48, .float .f32 x49, .float .f32 x50, .float .f32 x51, .float .f32 x52, .float .f32 x53, .float .f32 x54, .float .f32 x55])⟩] => if f0 = 0 ∧ f1 = 0 ∧ f2 = 0 ∧ f3 = 1 ∧ f4 = 0 ∧ f5 = 0 ∧ f6 = 2 ∧ f7 = 0 ∧ f8 = 0 ∧ f9 = 6 then [(true, .exit 0, [.pointer (some ⟨1, 0, some 0⟩), .pointer (some ⟨2, 0, some 0⟩), .float .f32 x1], ⟨[⟨true, (some (.cells [.float .f32 x2, .float .f32 x3, .float .f32 x4, .float .f32 x5, .float .f32 x6, .float .f32 x7, .float .f32 x8, .float .f32 x9, .float .f32 x10, .float .f32 x11, .float .f32 x12, .float .f32 x13, .float .f32 x14, .float .f32 x15, .float .f32 x16, .float .f32 x17, .float .f32 x18, .float .f32 x19]))⟩, ⟨true, (some (.cells [.float .f32 x20, .float .f32 x21, .float .f32 x22, .float .f32 x23, .float .f32 x24, .float .f32 x25, .float .f32 x26, .float .f32 x27, .float .f32 x28, .float .f32 x29, .float .f32 x30, .float .f32 x31, .float .f32 x32, .float .f32 x33, .float .f32 x34, .float .f32 x35, .float .f32 x36, .float .f32 x37]))⟩, ⟨true, (some (.cells [.float .f32 x38, .float .f32 x39, .float .f32 x40, .float .f32 x41, .float .f32 x42, .float .f32 x43, .float .f32 x44, .float .f32 x45, .float .f32 x46, .float .f32 x47, .float .f32 x48, .float .f32 x49, .float .f32 x50, .float .f32 x51, .float .f32 x52, .float .f32 x53, .float .f32 x54, .float .f32 x55]))⟩], 3, []⟩)] else noQ vals s
 | _, _ => noQ vals s
set_option maxRecDepth 100000 in
set_option maxHeartbeats 4000000 in
theorem qok80l0 : SumKOk Try.prog (loopN Try.f80 0) 80 [0, 1, 4, 6, 7, 8] [4, 6, 7] Q80l0 := by
  intro vals s x h1 h2 h3
  unfold Q80l0 at h3; split at h3
  · rename_i h; split at h3
    · rename_i hc; obtain ⟨rfl, rfl, rfl, rfl, rfl, rfl, rfl, rfl, rfl, rfl⟩ := hc; exact sum_step ok19 extOk mixed ((lfOkF_no _ _).inner (by kernel_rfl)) noQ_ok h1 h2 h (e80l0 _ _ _ _ _ _ _ _ _ _ _ _ _ _ _ _ _ _ _ _ _ _ _ _ _ _ _ _ _ _ _ _ _ _ _ _ _ _ _ _ _ _ _ _ _ _ _ _ _ _ _ _ _ _ _ _) rfl h3
    · exact noQ_ok _ _ _ h1 h2 h3
  · exact noQ_ok _ _ _ h1 h2 h3
noncomputable def L80_1 : LoopT := addL noL 5 ([0, 1, 4, 6, 7, 8], []) (sumK 80 [0, 1, 4, 6, 7, 8] [4, 6, 7] Q80l0)
theorem lok80_1 : LfOkF Try.prog L80_1 Try.f80 := lfOkF_add (lfOkF_no _ _) qok80l0 (by kernel_rfl) (by kernel_rfl) (by kernel_rfl)

/-- spec.l01Dry, loop 0 -/
noncomputable def r80l0b (x0 x1 x2 x3 x4 x5 x6 x7 x8 x9 x10 x11 x12 x13 x14 x15 x16 x17 x18 x19 x20 x21 x22 x23 x24 x25 x26 x27 x28 x29 x30 x31 x32 x33 x34 x35 x36 x37 x38 x39 x40 x41 x42 x43 x44 x45 x46 x47 x48 x49 x50 x51 x52 x53 x54 x55 : Nat) : Nat × Nat × Nat :=
 cond (fgt .f32 x13 1120403456)
  (cond (flt .f32 (fsub .f32 x13 (fdiv .f32 (fmul .f32 1157234688 (r109 x7 (fmul .f32 (fmul .f32 (fsub .f32 x13 1120403456) 990057071) x0))) (r110f x2 x3 x4 x5 x6 x7 x8 x9 x10 x11 x12 x13 x14 x15 x16 x17 x18 x19))) 1120403456)
  ((fadd .f32 x1 (r109 x7 (fmul .f32 (fmul .f32 (fsub .f32 x13 1120403456) 990057071) x0))), (fsub .f32 x7 (r109 x7 (fmul .f32 (fmul .f32 (fsub .f32 x13 1120403456) 990057071) x0))), 1120403456)
  ((fadd .f32 x1 (r109 x7 (fmul .f32 (fmul .f32 (fsub .f32 x13 1120403456) 990057071) x0))), (fsub .f32 x7 (r109 x7 (fmul .f32 (fmul .f32 (fsub .f32 x13 1120403456) 990057071) x0))), (fsub .f32 x13 (fdiv .f32 (fmul .f32 1157234688 (r109 x7 (fmul .f32 (fmul .f32 (fsub .f32 x13 1120403456) 990057071) x0))) (r110f x2 x3 x4 x5 x6 x7 x8 x9 x10 x11 x12 x13 x14 x15 x16 x17 x18 x19)))))
  ((fadd .f32 x1 0), x43, x49)
noncomputable def a80l0b (x0 x1 x2 x3 x4 x5 x6 x7 x8 x9 x10 x11 x12 x13 x14 x15 x16 x17 x18 x19 x20 x21 x22 x23 x24 x25 x26 x27 x28 x29 x30 x31 x32 x33 x34 x35 x36 x37 x38 x39 x40 x41 x42 x43 x44 x45 x46 x47 x48 x49 x50 x51 x52 x53 x54 x55 : Nat) (p : Nat × Nat × Nat) : Option (Fin' × List Value × St) := firstT ([(true, .exit 0, [.pointer (some ⟨1, 0, some 0⟩), .pointer (some ⟨2, 0, some 0⟩), .float .f32 (p.1)], ⟨[⟨true, (some (.cells [.float .f32 x2, .float .f32 x3, .float .f32 x4, .float .f32 x5, .float .f32 x6, .float .f32 x7, .float .f32 x8, .float .f32 x9, .float .f32 x10, .float .f32 x11, .float .f32 x12, .float .f32 x13, .float .f32 x14, .float .f32 x15, .float .f32 x16, .float .f32 x17, .float .f32 x18, .float .f32 x19]))⟩, ⟨true, (some (.cells [.float .f32 x20, .float .f32 x21, .float .f32 x22, .float .f32 x23, .float .f32 x24, .float .f32 x25, .float .f32 x26, .float .f32 x27, .float .f32 x28, .float .f32 x29, .float .f32 x30, .float .f32 x31, .float .f32 x32, .float .f32 x33, .float .f32 x34, .float .f32 x35, .float .f32 x36, .float .f32 x37]))⟩, ⟨true, (some (.cells [.float .f32 x38, .float .f32 x39, .float .f32 x40, .float .f32 x41, .float .f32 x42, .float .f32 (p.2.1), .float .f32 x44, .float .f32 x45, .float .f32 x46, .float .f32 x47, .float .f32 x48, .float .f32 (p.2.2), .float .f32 x50, .float .f32 x51, .float .f32 x52, .float .f32 x53, .float .f32 x54, .float .f32 x55]))⟩], 3, [2]⟩)].map fun (b, x) => (b, (x.1, frameOf 80 [4, 6, 7] x.2.1, x.2.2)))
noncomputable def w80l0b (x0 x1 x2 x3 x4 x5 x6 x7 x8 x9 x10 x11 x12 x13 x14 x15 x16 x17 x18 x19 x20 x21 x22 x23 x24 x25 x26 x27 x28 x29 x30 x31 x32 x33 x34 x35 x36 x37 x38 x39 x40 x41 x42 x43 x44 x45 x46 x47 x48 x49 x50 x51 x52 x53 x54 x55 : Nat) : Option (Fin' × List Value × St) :=
 (cond (fgt .f32 x13 1120403456)
 (cond (flt .f32 (fsub .f32 x13 (fdiv .f32 (fmul .f32 1157234688 (r109 x7 (fmul .f32 (fmul .f32 (fsub .f32 x13 1120403456) 990057071) x0))) (r110f x2 x3 x4 x5 x6 x7 x8 x9 x10 x11 x12 x13 x14 x15 x16 x17 x18 x19))) 1120403456)
  (a80l0b x0 x1 x2 x3 x4 x5 x6 x7 x8 x9 x10 x11 x12 x13 x14 x15 x16 x17 x18 x19 x20 x21 x22 x23 x24 x25 x26 x27 x28 x29 x30 x31 x32 x33 x34 x35 x36 x37 x38 x39 x40 x41 x42 x43 x44 x45 x46 x47 x48 x49 x50 x51 x52 x53 x54 x55 ((fadd .f32 x1 (r109 x7 (fmul .f32 (fmul .f32 (fsub .f32 x13 1120403456) 990057071) x0))), (fsub .f32 x7 (r109 x7 (fmul .f32 (fmul .f32 (fsub .f32 x13 1120403456) 990057071) x0))), 1120403456))
  (a80l0b x0 x1 x2 x3 x4 x5 x6 x7 x8 x9 x10 x11 x12 x13 x14 x15 x16 x17 x18 x19 x20 x21 x22 x23 x24 x25 x26 x27 x28 x29 x30 x31 x32 x33 x34 x35 x36 x37 x38 x39 x40 x41 x42 x43 x44 x45 x46 x47 x48 x49 x50 x51 x52 x53 x54 x55 ((fadd .f32 x1 (r109 x7 (fmul .f32 (fmul .f32 (fsub .f32 x13 1120403456) 990057071) x0))), (fsub .f32 x7 (r109 x7 (fmul .f32 (fmul .f32 (fsub .f32 x13 1120403456) 990057071) x0))), (fsub .f32 x13 (fdiv .f32 (fmul .f32 1157234688 (r109 x7 (fmul .f32 (fmul .f32 (fsub .f32 x13 1120403456) 990057071) x0))) (r110f x2 x3 x4 x5 x6 x7 x8 x9 x10 x11 x12 x13 x14 x15 x16 x17 x18 x19))))))
 (a80l0b x0 x1 x2 x3 x4 x5 x6 x7 x8 x9 x10 x11 x12 x13 x14 x15 x16 x17 x18 x19 x20 x21 x22 x23 x24 x25 x26 x27 x28 x29 x30 x31 x32 x33 x34 x35 x36 x37 x38 x39 x40 x41 x42 x43 x44 x45 x46 x47 x48 x49 x50 x51 x52 x53 x54 x55 ((fadd .f32 x1 0), x43, x49)))
set_option maxRecDepth 100000 in
set_option maxHeartbeats 4000000 in
theorem e80l0b (x0 x1 x2 x3 x4 x5 x6 x7 x8 x9 x10 x11 x12 x13 x14 x15 x16 x17 x18 x19 x20 x21 x22 x23 x24 x25 x26 x27 x28 x29 x30 x31 x32 x33 x34 x35 x36 x37 x38 x39 x40 x41 x42 x43 x44 x45 x46 x47 x48 x49 x50 x51 x52 x53 x54 x55 : Nat) : evC Try.prog ext T19 L80_1 200 (loopN Try.f80 0) (loopTail ([0, 1, 4, 6, 7, 8], []) [4, 6, 7] [2] (sumK 80 [0, 1, 4, 6, 7, 8] [4, 6, 7] Q80l0)) (frameOf 80 [0, 1, 4, 6, 7, 8] [.pointer (some ⟨0, 0, some 0⟩), .float .f32 x0, .pointer (some ⟨1, 0, some 0⟩), .pointer (some ⟨2, 0, some 0⟩), .float .f32 x1, .int .i64 5]) ⟨[⟨true, (some (.cells [.float .f32 x2, .float .f32 x3, .float .f32 x4, .float .f32 x5, .float .f32 x6, .float .f32 x7, .float .f32 x8, .float .f32 x9, .float .f32 x10, .float .f32 x11, .float .f32 x12, .float .f32 x13, .float .f32 x14, .float .f32 x15, .float .f32 x16, .float .f32 x17, .float .f32 x18, .float .f32 x19]))⟩, ⟨true, (some (.cells [.float .f32 x20, .float .f32 x21, .float .f32 x22, .float .f32 x23, .float .f32 x24, .float .f32 x25, .float .f32 x26, .float .f32 x27, .float .f32 x28, .float .f32 x29, .float .f32 x30, .float .f32 x31, .float .f32 x32, .float .f32 x33, .float .f32 x34, .float .f32 x35, .float .f32 x36, .float .f32 x37]))⟩, ⟨true, (some (.cells [.float .f32 x38, .float .f32 x39, .float .f32 x40, .float .f32 x41, .float .f32 x42, .float .f32 x43, .float .f32 x44, .float .f32 x45, .float .f32 x46, .float .f32 x47, .float .f32 x48, .float .f32 x49, .float .f32 x50, .float .f32 x51, .float .f32 x52, .float .f32 x53, .float .f32 x54, .float .f32 x55]))⟩], 3, []⟩ = firstT ([(true, .exit 0, [.pointer (some ⟨1, 0, some 0⟩), .pointer (some ⟨2, 0, some 0⟩), .float .f32 ((r80l0b x0 x1 x2 x3 x4 x5 x6 x7 x8 x9 x10 x11 x12 x13 x14 x15 x16 x17 x18 x19 x20 x21 x22 x23 x24 x25 x26 x27 x28 x29 x30 x31 x32 x33 x34 x35 x36 x37 x38 x39 x40 x41 x42 x43 x44 x45 x46 x47 x48 x49 x50 x51 x52 x53 x54 x55).1)], ⟨[⟨true, (some (.cells [.float .f32 x2, .float .f32 x3, .float .f32 x4, .float .f32 x5, .float .f32 x6, .float .f32 x7, .float .f32 x8, .float .f32 x9, .float .f32 x10, .float .f32 x11, .float .f32 x12, .float .f32 x13, .float .f32 x14, .float .f32 x15, .float .f32 x16, .float .f32 x17, .float .f32 x18, .float .f32 x19]))⟩, ⟨true, (some (.cells [.float .f32 x20, .float .f32 x21, .float .f32 x22, .float .f32 x23, .float .f32 x24, .float .f32 x25, .float .f32 x26, .float .f32 x27, .float .f32 x28, .float .f32 x29, .float .f32 x30, .float .f32 x31, .float .f32 x32, .float .f32 x33, .float .f32 x34, .float .f32 x35, .float .f32 x36, .float .f32 x37]))⟩, ⟨true, (some (.cells [.float .f32 x38, .float .f32 x39, .float .f32 x40, .float .f32 x41, .float .f32 x42, .float .f32 ((r80l0b x0 x1 x2 x3 x4 x5 x6 x7 x8 x9 x10 x11 x12 x13 x14 x15 x16 x17 x18 x19 x20 x21 x22 x23 x24 x25 x26 x27 x28 x29 x30 x31 x32 x33 x34 x35 x36 x37 x38 x39 x40 x41 x42 x43 x44 x45 x46 x47 x48 x49 x50 x51 x52 x53 x54 x55).2.1), .float .f32 x44, .float .f32 x45, .float .f32 x46, .float .f32 x47, .float .f32 x48, .float .f32 ((r80l0b x0 x1 x2 x3 x4 x5 x6 x7 x8 x9 x10 x11 x12 x13 x14 x15 x16 x17 x18 x19 x20 x21 x22 x23 x24 x25 x26 x27 x28 x29 x30 x31 x32 x33 x34 x35 x36 x37 x38 x39 x40 x41 x42 x43 x44 x45 x46 x47 x48 x49 x50 x51 x52 x53 x54 x55).2.2), .float .f32 x50, .float .f32 x51, .float .f32 x52, .float .f32 x53, .float .f32 x54, .float .f32 x55]))⟩], 3, [2]⟩)].map fun (b, x) => (b, (x.1, frameOf 80 [4, 6, 7] x.2.1, x.2.2))) :=
 (show evC Try.prog ext T19 L80_1 200 (loopN Try.f80 0) (loopTail ([0, 1, 4, 6, 7, 8], []) [4, 6, 7] [2] (sumK 80 [0, 1, 4, 6, 7, 8] [4, 6, 7] Q80l0)) (frameOf 80 [0, 1, 4, 6, 7, 8] [.pointer (some ⟨0, 0, some 0⟩), .float .f32 x0, .pointer (some ⟨1, 0, some 0⟩), .pointer (some ⟨2, 0, some 0⟩), .float .f32 x1, .int .i64 5]) ⟨[⟨true, (some (.cells [.float .f32 x2, .float .f32 x3, .float .f32 x4, .float .f32 x5, .float .f32 x6, .float .f32 x7, .float .f32 x8, .float .f32 x9, .float .f32 x10, .float .f32 x11, .float .f32 x12, .float .f32 x13, .float .f32 x14, .float .f32 x15, .float .f32 x16, .float .f32 x17, .float .f32 x18, .float .f32 x19]))⟩, ⟨true, (some (.cells [.float .f32 x20, .float .f32 x21, .float .f32 x22, .float .f32 x23, .float .f32 x24, .float .f32 x25, .float .f32 x26, .float .f32 x27, .float .f32 x28, .float .f32 x29, .float .f32 x30, .float .f32 x31, .float .f32 x32, .float .f32 x33, .float .f32 x34, .float .f32 x35, .float .f32 x36, .float .f32 x37]))⟩, ⟨true, (some (.cells [.float .f32 x38, .float .f32 x39, .float .f32 x40, .float .f32 x41, .float .f32 x42, .float .f32 x43, .float .f32 x44, .float .f32 x45, .float .f32 x46, .float .f32 x47, .float .f32 x48, .float .f32 x49, .float .f32 x50, .float .f32 x51, .float .f32 x52, .float .f32 x53, .float .f32 x54, .float .f32 x55]))⟩], 3, []⟩ = w80l0b x0 x1 x2 x3 x4 x5 x6 x7 x8 x9 x10 x11 x12 x13 x14 x15 x16 x17 x18 x19 x20 x21 x22 x23 x24 x25 x26 x27 x28 x29 x30 x31 x32 x33 x34 x35 x36 x37 x38 x39 x40 x41 x42 x43 x44 x45 x46 x47 x48 x49 x50 x51 x52 x53 x54 x55 from by kernel_rfl).trans
 (show w80l0b x0 x1 x2 x3 x4 x5 x6 x7 x8 x9 x10 x11 x12 x13 x14 x15 x16 x17 x18 x19 x20 x21 x22 x23 x24 x25 x26 x27 x28 x29 x30 x31 x32 x33 x34 x35 x36 x37 x38 x39 x40 x41 x42 x43 x44 x45 x46 x47 x48 x49 x50 x51 x52 x53 x54 x55 = a80l0b x0 x1 x2 x3 x4 x5 x6 x7 x8 x9 x10 x11 x12 x13 x14 x15 x16 x17 x18 x19 x20 x21 x22 x23 x24 x25 x26 x27 x28 x29 x30 x31 x32 x33 x34 x35 x36 x37 x38 x39 x40 x41 x42 x43 x44 x45 x46 x47 x48 x49 x50 x51 x52 x53 x54 x55 (r80l0b x0 x1 x2 x3 x4 x5 x6 x7 x8 x9 x10 x11 x12 x13 x14 x15 x16 x17 x18 x19 x20 x21 x22 x23 x24 x25 x26 x27 x28 x29 x30 x31 x32 x33 x34 x35 x36 x37 x38 x39 x40 x41 x42 x43 x44 x45 x46 x47 x48 x49 x50 x51 x52 x53 x54 x55) from by unfold w80l0b r80l0b; exact (cond_app (a80l0b x0 x1 x2 x3 x4 x5 x6 x7 x8 x9 x10 x11 x12 x13 x14 x15 x16 x17 x18 x19 x20 x21 x22 x23 x24 x25 x26 x27 x28 x29 x30 x31 x32 x33 x34 x35 x36 x37 x38 x39 x40 x41 x42 x43 x44 x45 x46 x47 x48 x49 x50 x51 x52 x53 x54 x55) _ (cond_app (a80l0b x0 x1 x2 x3 x4 x5 x6 x7 x8 x9 x10 x11 x12 x13 x14 x15 x16 x17 x18 x19 x20 x21 x22 x23 x24 x25 x26 x27 x28 x29 x30 x31 x32 x33 x34 x35 x36 x37 x38 x39 x40 x41 x42 x43 x44 x45 x46 x47 x48 x49 x50 x51 x52 x53 x54 x55) _ rfl rfl) rfl))
noncomputable def Q80l0b : SumK := fun vals s =>
 match vals, s.h with
 | [.pointer (some ⟨f0, f1, some f2⟩), .float .f32 x0, .pointer (some ⟨f3, f4, some f5⟩), .pointer (some ⟨f6, f7, some f8⟩), .float .f32 x1, .int .i64 f9], [⟨true, some (.cells [.float .f32 x2, .float .f32 x3, .float .f32 x4, .float .f32 x5, .float .f32 x6, .float .f32 x7, .float .f32 x8, .float .f32 x9, .float .f32 x10, .float .f32 x11, .float .f32 x12, .float .f32 x13, .float .f32 x14, .float .f32 x15, .float .f32 x16, .float .f32 x17, .float .f32 x18, .float .f32 x19])⟩, ⟨true, some (.cells [.float .f32 x20, .float .f32 x21, .float .f32 x22, .float .f32 x23, .float .f32 x24, .float .f32 x25, .float .f32 x26, .float .f32 x27, .float .f32 x28, .float .f32 x29, .float .f32 x30, .float .f32 x31, .float .f32 x32, .float .f32 x33, .float .f32 x34, .float .f32 x35, .float .f32 x36, .float .f32 x37])⟩, ⟨true, some (.cells [.float .f32 x38, .float .f32 x39, .float .f32 x40, .float .f32 x41, .float .f32 x42, .float .f32 x43, .float .f32 x44, .float .f32 x45, .float .f32 x46, .float .f32 x47, .float .f32 x48, .float .f32 x49, .float .f32 x50, .float .f32 x51, .float .f32 x52, .float .f32 x53, .float .f32 x54, .float .f32 x55])⟩] => if f0 = 0 ∧ f1 = 0 ∧ f2 = 0 ∧ f3 = 1 ∧ f4 = 0 ∧ f5 = 0 ∧ f6 = 2 ∧ f7 = 0 ∧ f8 = 0 ∧ f9 = 5 then [(true, .exit 0, [.pointer (some ⟨1, 0, some 0⟩), .pointer (some ⟨2, 0, some 0⟩), .float .f32 ((r80l0b x0 x1 x2 x3 x4 x5 x6 x7 x8 x9 x10 x11 x12 x13 x14 x15 x16 x17 x18 x19 x20 x21 x22 x23 x24 x25 x26 x27 x28 x29 x30 x31 x32 x33 x34 x35 x36 x37 x38 x39 x40 x41 x42 x43 x44 x45 x46 x47 x48 x49 x50 x51 x52 x53 x54 x55).1)], ⟨[⟨true, (some (.cells [.float .f32 x2, .float .f32 x3, .float .f32 x4, .float .f32 x5, .float .f32 x6, .float .f32 x7, .float .f32 x8, .float .f32 x9, .float .f32 x10, .float .f32 x11, .float .f32 x12, .float .f32 x13, .float .f32 x14, .float .f32 x15, .float .f32 x16, .float .f32 x17, .float .f32 x18, .float .f32 x19]))⟩, ⟨true, (some (.cells [.float .f32 x20, .float .f32 x21, .float .f32 x22, .float .f32 x23, .float .f32 x24, .float .f32 x25, .float .f32 x26, .float .f32 x27, .float .f32 x28, .float .f32 x29, .float .f32 x30, .float .f32 x31, .float .f32 x32, .float .f32 x33, .float .f32 x34, .float .f32 x35, .float .f32 x36, .float .f32 x37]))⟩, ⟨true, (some (.cells [.float .f32 x38, .float .f32 x39, .float .f32 x40, .float .f32 x41, .float .f32 x42, .float .f32 ((r80l0b x0 x1 x2 x3 x4 x5 x6 x7 x8 x9 x10 x11 x12 x13 x14 x15 x16 x17 x18 x19 x20 x21 x22 x23 x24 x25 x26 x27 x28 x29 x30 x31 x32 x33 x34 x35 x36 x37 x38 x39 x40 x41 x42 x43 x44 x45 x46 x47 x48 x49 x50 x51 x52 x53 x54 x55).2.1), .float .f32 x44, .float .f32 x45, .float .f32 x46, .float .f32 x47, .float .f32 x48, .float .f32 ((r80l0b x0 x1 x2 x3 x4 x5 x6 x7 x8 x9 x10 x11 x12 x13 x14 x15 x16 x17 x18 x19 x20 x21 x22 x23 x24 x25 x26 x27 x28 x29 x30 x31 x32 x33 x34 x35 x36 x37 x38 x39 x40 x41 x42 x43 x44 x45 x46 x47 x48 x49 x50 x51 x52 x53 x54 x55).2.2), .float .f32 x50, .float .f32 x51, .float .f32 x52, .float .f32 x53, .float .f32 x54, .float .f32 x55]))⟩], 3, [2]⟩)] else Q80l0 vals s
 | _, _ => Q80l0 vals s
set_option maxRecDepth 100000 in
set_option maxHeartbeats 4000000 in
theorem qok80l0b : SumKOk Try.prog (loopN Try.f80 0) 80 [0, 1, 4, 6, 7, 8] [4, 6, 7] Q80l0b := by
  intro vals s x h1 h2 h3
  unfold Q80l0b at h3; split at h3
  · rename_i h; split at h3
    · rename_i hc; obtain ⟨rfl, rfl, rfl, rfl, rfl, rfl, rfl, rfl, rfl, rfl⟩ := hc; exact sum_step ok19 extOk mixed (lok80_1.inner (by kernel_rfl)) qok80l0 h1 h2 h (e80l0b _ _ _ _ _ _ _ _ _ _ _ _ _ _ _ _ _ _ _ _ _ _ _ _ _ _ _ _ _ _ _ _ _ _ _ _ _ _ _ _ _ _ _ _ _ _ _ _ _ _ _ _ _ _ _ _) rfl h3
    · exact qok80l0 _ _ _ h1 h2 h3
  · exact qok80l0 _ _ _ h1 h2 h3
noncomputable def L80_2 : LoopT := addL L80_1 5 ([0, 1, 4, 6, 7, 8], []) (sumK 80 [0, 1, 4, 6, 7, 8] [4, 6, 7] Q80l0b)
theorem lok80_2 : LfOkF Try.prog L80_2 Try.f80 := lfOkF_add lok80_1 qok80l0b (by kernel_rfl) (by kernel_rfl) (by kernel_rfl)
end Go.Proofs.Ytbmagccjcccnaaa
