/- What the functions that FnExactFuelOf reaches answer. -/
import Derived.Test.YtpmpeakamcfdcaaA22
import Derived.KernelRfl
import Derived.Test.YtpmpeakamcfdcaaChecked
namespace Go.Proofs.Ytpmpeakamcfdcaa
open Go.Ab

def ext : FuncId → Option Ext := fun g => (cond (Nat.beq g 113) (some .f32bits) (cond (Nat.beq g 128) (some .f64from) (cond (Nat.beq g 129) (some .f64bits) none)))
theorem ext_case {g : FuncId} {e : Ext} (h : ext g = some e) : g = 113 ∧ e = .f32bits ∨ g = 128 ∧ e = .f64from ∨ g = 129 ∧ e = .f64bits := by
  unfold ext at h
  cases h0 : Nat.beq g 113 with
  | true => rw [h0] at h; cases h; exact .inl ⟨Nat.eq_of_beq_eq_true h0, rfl⟩
  | false =>
    rw [h0] at h
    cases h1 : Nat.beq g 128 with
    | true => rw [h1] at h; cases h; exact .inr (.inl ⟨Nat.eq_of_beq_eq_true h1, rfl⟩)
    | false =>
      rw [h1] at h
      cases h2 : Nat.beq g 129 with
      | true => rw [h2] at h; cases h; exact .inr (.inr (⟨Nat.eq_of_beq_eq_true h2, rfl⟩))
      | false =>
        rw [h2] at h
        cases h
theorem extOk : ExtOk Try.prog ext := by
  intro g e h
  rcases ext_case h with ⟨rfl, rfl⟩ | ⟨rfl, rfl⟩ | ⟨rfl, rfl⟩
  · exact ⟨Try.f113, Try.func113, by kernel_rfl, by kernel_rfl, by kernel_rfl, by kernel_rfl⟩
  · exact ⟨Try.f128, Try.func128, by kernel_rfl, by kernel_rfl, by kernel_rfl, by kernel_rfl⟩
  · exact ⟨Try.f129, Try.func129, by kernel_rfl, by kernel_rfl, by kernel_rfl, by kernel_rfl⟩
theorem mixed : Try.prog.follows .mixedOrders = true := by kernel_rfl
theorem callOk {cf : CallF} (hcf : CfOk Try.prog cf) {N : Nat} {f : FuncId} {fn : Func} (hf : Try.prog.funcs[f]? = some fn) {args : List Value} {s : St} {l : List Blk} {n : Nat} {r r' : Value} {s1 s' : St} (h1 : s.lo = s.h.length) (h2 : s.touched = false) (h : s.h = l) (he : evFn Try.prog ext cf N fn args ⟨l, n, false⟩ = some (r, s1)) (hn : n = l.length) (h3 : some (r, s1) = some (r', s')) : CallsOK Try.prog f args s r' s' :=
  call_ok extOk mixed hcf hf h1 h2 h he hn h3
def T0 : CallF := noF
theorem ok0 : CfOk Try.prog T0 := cfOk_no _

/-- laws.toFloat32A6 -/
def r59 (x0 : Nat) (x1 : Nat) (x2 : Nat) (x3 : Nat) (x4 : Nat) (x5 : Nat) : Unit :=
 ()
def s59 (args : List Value) (s : St) : Res :=
 match args, s.h with
 | [.agg ⟨[.float .f32 x0, .float .f32 x1, .float .f32 x2, .float .f32 x3, .float .f32 x4, .float .f32 x5]⟩], [] => some (.agg #[.float .f32 x0, .float .f32 x1, .float .f32 x2, .float .f32 x3, .float .f32 x4, .float .f32 x5], st0)
 | _, _ => T0 59 args s
def a59 (x0 : Nat) (x1 : Nat) (x2 : Nat) (x3 : Nat) (x4 : Nat) (x5 : Nat) (p : Unit) : Res := some (.agg #[.float .f32 x0, .float .f32 x1, .float .f32 x2, .float .f32 x3, .float .f32 x4, .float .f32 x5], st0)
def t59 (x0 : Nat) (x1 : Nat) (x2 : Nat) (x3 : Nat) (x4 : Nat) (x5 : Nat) : Res :=
 (some (.agg #[.float .f32 x0, .float .f32 x1, .float .f32 x2, .float .f32 x3, .float .f32 x4, .float .f32 x5], st0))
set_option maxRecDepth 100000 in
theorem e59 (x0 : Nat) (x1 : Nat) (x2 : Nat) (x3 : Nat) (x4 : Nat) (x5 : Nat) : evFn Try.prog ext T0 200 Try.f59 [.agg #[.float .f32 x0, .float .f32 x1, .float .f32 x2, .float .f32 x3, .float .f32 x4, .float .f32 x5]] st0 = some (.agg #[.float .f32 x0, .float .f32 x1, .float .f32 x2, .float .f32 x3, .float .f32 x4, .float .f32 x5], st0) :=
 (show evFn Try.prog ext T0 200 Try.f59 [.agg #[.float .f32 x0, .float .f32 x1, .float .f32 x2, .float .f32 x3, .float .f32 x4, .float .f32 x5]] st0 = t59 x0 x1 x2 x3 x4 x5 from by kernel_rfl).trans
 ((show t59 x0 x1 x2 x3 x4 x5 = a59 x0 x1 x2 x3 x4 x5 (r59 x0 x1 x2 x3 x4 x5) from rfl))
def T1 : CallF := addF T0 59 s59
set_option maxRecDepth 100000 in
theorem ok1 : CfOk Try.prog T1 := by
  refine cfOk_add ok0 fun args s r s' h1 h2 h3 => ?_
  unfold s59 at h3; split at h3
  · rename_i h; exact callOk ok0 Try.func59 h1 h2 h (e59 _ _ _ _ _ _) rfl h3
  · exact ok0 _ _ _ _ _ h1 h2 h3

/-- laws.toWood -/
def r12 (x0 : Nat) (x1 : Nat) (x2 : Nat) (x3 : Nat) (x4 : Nat) (x5 : Nat) (x6 : Nat) (x7 : Nat) (x8 : Nat) (x9 : Nat) (x10 : Nat) (x11 : Nat) (x12 : Nat) (x13 : Nat) (x14 : Nat) (x15 : Nat) (x16 : Nat) (x17 : Nat) : Unit :=
 ()
def s12 (args : List Value) (s : St) : Res :=
 match args, s.h with
 | [.agg ⟨[.float .f32 x0, .float .f32 x1, .float .f32 x2, .float .f32 x3, .float .f32 x4, .float .f32 x5, .float .f32 x6, .float .f32 x7, .float .f32 x8, .float .f32 x9, .float .f32 x10, .float .f32 x11, .float .f32 x12, .float .f32 x13, .float .f32 x14, .float .f32 x15, .float .f32 x16, .float .f32 x17]⟩], [] => some (.agg #[.float .f32 x0, .float .f32 x1, .float .f32 x2, .float .f32 x3, .float .f32 x4, .float .f32 x5, .float .f32 x6, .float .f32 x7, .float .f32 x8, .float .f32 x9, .float .f32 x10, .float .f32 x11, .float .f32 x12, .float .f32 x13, .float .f32 x14, .float .f32 x15, .float .f32 x16, .float .f32 x17], st0)
 | _, _ => T1 12 args s
def a12 (x0 : Nat) (x1 : Nat) (x2 : Nat) (x3 : Nat) (x4 : Nat) (x5 : Nat) (x6 : Nat) (x7 : Nat) (x8 : Nat) (x9 : Nat) (x10 : Nat) (x11 : Nat) (x12 : Nat) (x13 : Nat) (x14 : Nat) (x15 : Nat) (x16 : Nat) (x17 : Nat) (p : Unit) : Res := some (.agg #[.float .f32 x0, .float .f32 x1, .float .f32 x2, .float .f32 x3, .float .f32 x4, .float .f32 x5, .float .f32 x6, .float .f32 x7, .float .f32 x8, .float .f32 x9, .float .f32 x10, .float .f32 x11, .float .f32 x12, .float .f32 x13, .float .f32 x14, .float .f32 x15, .float .f32 x16, .float .f32 x17], st0)
def t12 (x0 : Nat) (x1 : Nat) (x2 : Nat) (x3 : Nat) (x4 : Nat) (x5 : Nat) (x6 : Nat) (x7 : Nat) (x8 : Nat) (x9 : Nat) (x10 : Nat) (x11 : Nat) (x12 : Nat) (x13 : Nat) (x14 : Nat) (x15 : Nat) (x16 : Nat) (x17 : Nat) : Res :=
 (some (.agg #[.float .f32 x0, .float .f32 x1, .float .f32 x2, .float .f32 x3, .float .f32 x4, .float .f32 x5, .float .f32 x6, .float .f32 x7, .float .f32 x8, .float .f32 x9, .float .f32 x10, .float .f32 x11, .float .f32 x12, .float .f32 x13, .float .f32 x14, .float .f32 x15, .float .f32 x16, .float .f32 x17], st0))
set_option maxRecDepth 100000 in
theorem e12 (x0 : Nat) (x1 : Nat) (x2 : Nat) (x3 : Nat) (x4 : Nat) (x5 : Nat) (x6 : Nat) (x7 : Nat) (x8 : Nat) (x9 : Nat) (x10 : Nat) (x11 : Nat) (x12 : Nat) (x13 : Nat) (x14 : Nat) (x15 : Nat) (x16 : Nat) (x17 : Nat) : evFn Try.prog ext T1 200 Try.f12 [.agg #[.float .f32 x0, .float .f32 x1, .float .f32 x2, .float .f32 x3, .float .f32 x4, .float .f32 x5, .float .f32 x6, .float .f32 x7, .float .f32 x8, .float .f32 x9, .float .f32 x10, .float .f32 x11, .float .f32 x12, .float .f32 x13, .float .f32 x14, .float .f32 x15, .float .f32 x16, .float .f32 x17]] st0 = some (.agg #[.float .f32 x0, .float .f32 x1, .float .f32 x2, .float .f32 x3, .float .f32 x4, .float .f32 x5, .float .f32 x6, .float .f32 x7, .float .f32 x8, .float .f32 x9, .float .f32 x10, .float .f32 x11, .float .f32 x12, .float .f32 x13, .float .f32 x14, .float .f32 x15, .float .f32 x16, .float .f32 x17], st0) :=
 (show evFn Try.prog ext T1 200 Try.f12 [.agg #[.float .f32 x0, .float .f32 x1, .float .f32 x2, .float .f32 x3, .float .f32 x4, .float .f32 x5, .float .f32 x6, .float .f32 x7, .float .f32 x8, .float .f32 x9, .float .f32 x10, .float .f32 x11, .float .f32 x12, .float .f32 x13, .float .f32 x14, .float .f32 x15, .float .f32 x16, .float .f32 x17]] st0 = t12 x0 x1 x2 x3 x4 x5 x6 x7 x8 x9 x10 x11 x12 x13 x14 x15 x16 x17 from by kernel_rfl).trans
 ((show t12 x0 x1 x2 x3 x4 x5 x6 x7 x8 x9 x10 x11 x12 x13 x14 x15 x16 x17 = a12 x0 x1 x2 x3 x4 x5 x6 x7 x8 x9 x10 x11 x12 x13 x14 x15 x16 x17 (r12 x0 x1 x2 x3 x4 x5 x6 x7 x8 x9 x10 x11 x12 x13 x14 x15 x16 x17) from rfl))
def T2 : CallF := addF T1 12 s12
set_option maxRecDepth 100000 in
theorem ok2 : CfOk Try.prog T2 := by
  refine cfOk_add ok1 fun args s r s' h1 h2 h3 => ?_
  unfold s12 at h3; split at h3
  · rename_i h; exact callOk ok1 Try.func12 h1 h2 h (e12 _ _ _ _ _ _ _ _ _ _ _ _ _ _ _ _ _ _) rfl h3
  · exact ok1 _ _ _ _ _ h1 h2 h3

/-- spec.l01Finite -/
def r109 (x0 : Nat) : Bool :=
 ((feq .f32 (fsub .f32 x0 x0) 0))
def s109 (args : List Value) (s : St) : Res :=
 match args, s.h with
 | [.float .f32 x0], [] => some (.bool (r109 x0), st0)
 | _, _ => T2 109 args s
def a109 (x0 : Nat) (p : Bool) : Res := some (.bool p, st0)
def t109 (x0 : Nat) : Res :=
 (some (.bool (feq .f32 (fsub .f32 x0 x0) 0), st0))
set_option maxRecDepth 100000 in
theorem e109 (x0 : Nat) : evFn Try.prog ext T2 200 Try.f109 [.float .f32 x0] st0 = some (.bool (r109 x0), st0) :=
 (show evFn Try.prog ext T2 200 Try.f109 [.float .f32 x0] st0 = t109 x0 from by kernel_rfl).trans
 ((show t109 x0 = a109 x0 (r109 x0) from rfl))
def T3 : CallF := addF T2 109 s109
set_option maxRecDepth 100000 in
theorem ok3 : CfOk Try.prog T3 := by
  refine cfOk_add ok2 fun args s r s' h1 h2 h3 => ?_
  unfold s109 at h3; split at h3
  · rename_i h; exact callOk ok2 Try.func109 h1 h2 h (e109 _) rfl h3
  · exact ok2 _ _ _ _ _ h1 h2 h3

/-- spec.l01Amount -/
def r100 (x0 : Nat) : Bool :=
 cond (r109 x0)
  (cond (fgt .f32 x0 0)
   (true)
   (cond (!isN .f32 x0)
    (((((x0 : Nat) : Int) : Int) == 0))
    (false)))
  (false)
def s100 (args : List Value) (s : St) : Res :=
 match args, s.h with
 | [.float .f32 x0], [] => some (.bool (r100 x0), st0)
 | _, _ => T3 100 args s
def a100 (x0 : Nat) (p : Bool) : Res := some (.bool p, st0)
def t100 (x0 : Nat) : Res :=
 (cond (r109 x0)
 (cond (fgt .f32 x0 0)
  (some (.bool true, st0))
  (cond (!isN .f32 x0)
   (some (.bool ((((x0 : Nat) : Int) : Int) == 0), st0))
   (some (.bool false, st0))))
 (some (.bool false, st0)))
set_option maxRecDepth 100000 in
theorem e100 (x0 : Nat) : evFn Try.prog ext T3 200 Try.f100 [.float .f32 x0] st0 = some (.bool (r100 x0), st0) :=
 (show evFn Try.prog ext T3 200 Try.f100 [.float .f32 x0] st0 = t100 x0 from by kernel_rfl).trans
 ((show t100 x0 = a100 x0 (r100 x0) from (cond_app (a100 x0) _ (cond_app (a100 x0) _ rfl (cond_app (a100 x0) _ rfl rfl)) rfl)))
def T4 : CallF := addF T3 100 s100
set_option maxRecDepth 100000 in
theorem ok4 : CfOk Try.prog T4 := by
  refine cfOk_add ok3 fun args s r s' h1 h2 h3 => ?_
  unfold s100 at h3; split at h3
  · rename_i h; exact callOk ok3 Try.func100 h1 h2 h (e100 _) rfl h3
  · exact ok3 _ _ _ _ _ h1 h2 h3

/-- spec.l01Ok -/
def r57 (x0 : Nat) (x1 : Nat) (x2 : Nat) (x3 : Nat) (x4 : Nat) (x5 : Nat) (x6 : Nat) (x7 : Nat) (x8 : Nat) (x9 : Nat) (x10 : Nat) (x11 : Nat) (x12 : Nat) (x13 : Nat) (x14 : Nat) (x15 : Nat) (x16 : Nat) (x17 : Nat) : Bool :=
 cond (!(r100 x0))
  (false)
  (cond (fgt .f32 x0 1092616192)
   (false)
   (cond (!(r100 x12))
    (false)
    (cond (fgt .f32 x12 1092616192)
     (false)
     (cond (fgt .f32 x6 3262119936 || feq .f32 x6 3262119936)
      (cond (!(flt .f32 x6 1153138688 || feq .f32 x6 1153138688))
       (false)
       (cond (!(r100 x1))
        (false)
        (cond (fgt .f32 x1 1092616192)
         (false)
         (cond (!(r100 x13))
          (false)
          (cond (fgt .f32 x13 1092616192)
           (false)
           (cond (fgt .f32 x7 3262119936 || feq .f32 x7 3262119936)
            (cond (!(flt .f32 x7 1153138688 || feq .f32 x7 1153138688))
             (false)
             (cond (!(r100 x2))
              (false)
              (cond (fgt .f32 x2 1092616192)
               (false)
               (cond (!(r100 x14))
                (false)
                (cond (fgt .f32 x14 1092616192)
                 (false)
                 (cond (fgt .f32 x8 3262119936 || feq .f32 x8 3262119936)
                  (cond (!(flt .f32 x8 1153138688 || feq .f32 x8 1153138688))
                   (false)
                   (cond (!(r100 x3))
                    (false)
                    (cond (fgt .f32 x3 1092616192)
                     (false)
                     (cond (!(r100 x15))
                      (false)
                      (cond (fgt .f32 x15 1092616192)
                       (false)
                       (cond (fgt .f32 x9 3262119936 || feq .f32 x9 3262119936)
                        (cond (!(flt .f32 x9 1153138688 || feq .f32 x9 1153138688))
                         (false)
                         (cond (!(r100 x4))
                          (false)
                          (cond (fgt .f32 x4 1092616192)
                           (false)
                           (cond (!(r100 x16))
                            (false)
                            (cond (fgt .f32 x16 1092616192)
                             (false)
                             (cond (fgt .f32 x10 3262119936 || feq .f32 x10 3262119936)
                              (cond (!(flt .f32 x10 1153138688 || feq .f32 x10 1153138688))
                               (false)
                               (cond (!(r100 x5))
                                (false)
                                (cond (fgt .f32 x5 1092616192)
                                 (false)
                                 (cond (!(r100 x17))
                                  (false)
                                  (cond (fgt .f32 x17 1092616192)
                                   (false)
                                   (cond (fgt .f32 x11 3262119936 || feq .f32 x11 3262119936)
                                    (cond (!(flt .f32 x11 1153138688 || feq .f32 x11 1153138688))
                                     (false)
                                     (true))
                                    (false)))))))
                              (false)))))))
                        (false)))))))
                  (false)))))))
            (false)))))))
      (false)))))
def s57 (args : List Value) (s : St) : Res :=
 match args, s.h with
 | [.pointer (some ⟨b0, o0, some s0⟩)], [⟨true, some (.cells [.float .f32 x0, .float .f32 x1, .float .f32 x2, .float .f32 x3, .float .f32 x4, .float .f32 x5, .float .f32 x6, .float .f32 x7, .float .f32 x8, .float .f32 x9, .float .f32 x10, .float .f32 x11, .float .f32 x12, .float .f32 x13, .float .f32 x14, .float .f32 x15, .float .f32 x16, .float .f32 x17])⟩] => if b0 = 0 ∧ o0 = 0 ∧ s0 = 0 then some (.bool (r57 x0 x1 x2 x3 x4 x5 x6 x7 x8 x9 x10 x11 x12 x13 x14 x15 x16 x17), ⟨[⟨true, (some (.cells [.float .f32 x0, .float .f32 x1, .float .f32 x2, .float .f32 x3, .float .f32 x4, .float .f32 x5, .float .f32 x6, .float .f32 x7, .float .f32 x8, .float .f32 x9, .float .f32 x10, .float .f32 x11, .float .f32 x12, .float .f32 x13, .float .f32 x14, .float .f32 x15, .float .f32 x16, .float .f32 x17]))⟩], 1, false⟩) else T4 57 args s
 | _, _ => T4 57 args s
def a57 (x0 : Nat) (x1 : Nat) (x2 : Nat) (x3 : Nat) (x4 : Nat) (x5 : Nat) (x6 : Nat) (x7 : Nat) (x8 : Nat) (x9 : Nat) (x10 : Nat) (x11 : Nat) (x12 : Nat) (x13 : Nat) (x14 : Nat) (x15 : Nat) (x16 : Nat) (x17 : Nat) (p : Bool) : Res := some (.bool p, ⟨[⟨true, (some (.cells [.float .f32 x0, .float .f32 x1, .float .f32 x2, .float .f32 x3, .float .f32 x4, .float .f32 x5, .float .f32 x6, .float .f32 x7, .float .f32 x8, .float .f32 x9, .float .f32 x10, .float .f32 x11, .float .f32 x12, .float .f32 x13, .float .f32 x14, .float .f32 x15, .float .f32 x16, .float .f32 x17]))⟩], 1, false⟩)
def t57 (x0 : Nat) (x1 : Nat) (x2 : Nat) (x3 : Nat) (x4 : Nat) (x5 : Nat) (x6 : Nat) (x7 : Nat) (x8 : Nat) (x9 : Nat) (x10 : Nat) (x11 : Nat) (x12 : Nat) (x13 : Nat) (x14 : Nat) (x15 : Nat) (x16 : Nat) (x17 : Nat) : Res :=
 (cond (!(r100 x0))
 (some (.bool false, ⟨[⟨true, (some (.cells [.float .f32 x0, .float .f32 x1, .float .f32 x2, .float .f32 x3, .float .f32 x4, .float .f32 x5, .float .f32 x6, .float .f32 x7, .float .f32 x8, .float .f32 x9, .float .f32 x10, .float .f32 x11, .float .f32 x12, .float .f32 x13, .float .f32 x14, .float .f32 x15, .float .f32 x16, .float .f32 x17]))⟩], 1, false⟩))
 (cond (fgt .f32 x0 1092616192)
  (some (.bool false, ⟨[⟨true, (some (.cells [.float .f32 x0, .float .f32 x1, .float .f32 x2, .float .f32 x3, .float .f32 x4, .float .f32 x5, .float .f32 x6, .float .f32 x7, .float .f32 x8, .float .f32 x9, .float .f32 x10, .float .f32 x11, .float .f32 x12, .float .f32 x13, .float .f32 x14, .float .f32 x15, .float .f32 x16, .float .f32 x17]))⟩], 1, false⟩))
  (cond (!(r100 x12))
   (some (.bool false, ⟨[⟨true, (some (.cells [.float .f32 x0, .float .f32 x1, .float .f32 x2, .float .f32 x3, .float .f32 x4, .float .f32 x5, .float .f32 x6, .float .f32 x7, .float .f32 x8, .float .f32 x9, .float .f32 x10, .float .f32 x11, .float .f32 x12, .float .f32 x13, .float .f32 x14, .float .f32 x15, .float .f32 x16, .float .f32 x17]))⟩], 1, false⟩))
   (cond (fgt .f32 x12 1092616192)
    (some (.bool false, ⟨[⟨true, (some (.cells [.float .f32 x0, .float .f32 x1, .float .f32 x2, .float .f32 x3, .float .f32 x4, .float .f32 x5, .float .f32 x6, .float .f32 x7, .float .f32 x8, .float .f32 x9, .float .f32 x10, .float .f32 x11, .float .f32 x12, .float .f32 x13, .float .f32 x14, .float .f32 x15, .float .f32 x16, .float .f32 x17]))⟩], 1, false⟩))
    (cond (fgt .f32 x6 3262119936 || feq .f32 x6 3262119936)
     (cond (!(flt .f32 x6 1153138688 || feq .f32 x6 1153138688))
      (some (.bool false, ⟨[⟨true, (some (.cells [.float .f32 x0, .float .f32 x1, .float .f32 x2, .float .f32 x3, .float .f32 x4, .float .f32 x5, .float .f32 x6, .float .f32 x7, .float .f32 x8, .float .f32 x9, .float .f32 x10, .float .f32 x11, .float .f32 x12, .float .f32 x13, .float .f32 x14, .float .f32 x15, .float .f32 x16, .float .f32 x17]))⟩], 1, false⟩))
      (cond (!(r100 x1))
       (some (.bool false, ⟨[⟨true, (some (.cells [.float .f32 x0, .float .f32 x1, .float .f32 x2, .float .f32 x3, .float .f32 x4, .float .f32 x5, .float .f32 x6, .float .f32 x7, .float .f32 x8, .float .f32 x9, .float .f32 x10, .float .f32 x11, .float .f32 x12, .float .f32 x13, .float .f32 x14, .float .f32 x15, .float .f32 x16, .float .f32 x17]))⟩], 1, false⟩))
       (cond (fgt .f32 x1 1092616192)
        (some (.bool false, ⟨[⟨true, (some (.cells [.float .f32 x0, .float .f32 x1, .float .f32 x2, .float .f32 x3, .float .f32 x4, .float .f32 x5, .float .f32 x6, .float .f32 x7, .float .f32 x8, .float .f32 x9, .float .f32 x10, .float .f32 x11, .float .f32 x12, .float .f32 x13, .float .f32 x14, .float .f32 x15, .float .f32 x16, .float .f32 x17]))⟩], 1, false⟩))
        (cond (!(r100 x13))
         (some (.bool false, ⟨[⟨true, (some (.cells [.float .f32 x0, .float .f32 x1, .float .f32 x2, .float .f32 x3, .float .f32 x4, .float .f32 x5, .float .f32 x6, .float .f32 x7, .float .f32 x8, .float .f32 x9, .float .f32 x10, .float .f32 x11, .float .f32 x12, .float .f32 x13, .float .f32 x14, .float .f32 x15, .float .f32 x16, .float .f32 x17]))⟩], 1, false⟩))
         (cond (fgt .f32 x13 1092616192)
          (some (.bool false, ⟨[⟨true, (some (.cells [.float .f32 x0, .float .f32 x1, .float .f32 x2, .float .f32 x3, .float .f32 x4, .float .f32 x5, .float .f32 x6, .float .f32 x7, .float .f32 x8, .float .f32 x9, .float .f32 x10, .float .f32 x11, .float .f32 x12, .float .f32 x13, .float .f32 x14, .float .f32 x15, .float .f32 x16, .float .f32 x17]))⟩], 1, false⟩))
          (cond (fgt .f32 x7 3262119936 || feq .f32 x7 3262119936)
           (cond (!(flt .f32 x7 1153138688 || feq .f32 x7 1153138688))
            (some (.bool false, ⟨[⟨true, (some (.cells [.float .f32 x0, .float .f32 x1, .float .f32 x2, .float .f32 x3, .float .f32 x4, .float .f32 x5, .float .f32 x6, .float .f32 x7, .float .f32 x8, .float .f32 x9, .float .f32 x10, .float .f32 x11, .float .f32 x12, .float .f32 x13, .float .f32 x14, .float .f32 x15, .float .f32 x16, .float .f32 x17]))⟩], 1, false⟩))
            (cond (!(r100 x2))
             (some (.bool false, ⟨[⟨true, (some (.cells [.float .f32 x0, .float .f32 x1, .float .f32 x2, .float .f32 x3, .float .f32 x4, .float .f32 x5, .float .f32 x6, .float .f32 x7, .float .f32 x8, .float .f32 x9, .float .f32 x10, .float .f32 x11, .float .f32 x12, .float .f32 x13, .float .f32 x14, .float .f32 x15, .float .f32 x16, .float .f32 x17]))⟩], 1, false⟩))
             (cond (fgt .f32 x2 1092616192)
              (some (.bool false, ⟨[⟨true, (some (.cells [.float .f32 x0, .float .f32 x1, .float .f32 x2, .float .f32 x3, .float .f32 x4, .float .f32 x5, .float .f32 x6, .float .f32 x7, .float .f32 x8, .float .f32 x9, .float .f32 x10, .float .f32 x11, .float .f32 x12, .float .f32 x13, .float .f32 x14, .float .f32 x15, .float .f32 x16, .float .f32 x17]))⟩], 1, false⟩))
              (cond (!(r100 x14))
               (some (.bool false, ⟨[⟨true, (some (.cells [.float .f32 x0, .float .f32 x1, .float .f32 x2, .float .f32 x3, .float .f32 x4, .float .f32 x5, .float .f32 x6, .float .f32 x7, .float .f32 x8, .float .f32 x9, .float .f32 x10, .float .f32 x11, .float .f32 x12, .float .f32 x13, .float .f32 x14, .float .f32 x15, .float .f32 x16, .float .f32 x17]))⟩], 1, false⟩))
               (cond (fgt .f32 x14 1092616192)
                (some (.bool false, ⟨[⟨true, (some (.cells [.float .f32 x0, .float .f32 x1, .float .f32 x2, .float .f32 x3, .float .f32 x4, .float .f32 x5, .float .f32 x6, .float .f32 x7, .float .f32 x8, .float .f32 x9, .float .f32 x10, .float .f32 x11, .float .f32 x12, .float .f32 x13, .float .f32 x14, .float .f32 x15, .float .f32 x16, .float .f32 x17]))⟩], 1, false⟩))
                (cond (fgt .f32 x8 3262119936 || feq .f32 x8 3262119936)
                 (cond (!(flt .f32 x8 1153138688 || feq .f32 x8 1153138688))
                  (some (.bool false, ⟨[⟨true, (some (.cells [.float .f32 x0, .float .f32 x1, .float .f32 x2, .float .f32 x3, .float .f32 x4, .float .f32 x5, .float .f32 x6, .float .f32 x7, .float .f32 x8, .float .f32 x9, .float .f32 x10, .float .f32 x11, .float .f32 x12, .float .f32 x13, .float .f32 x14, .float .f32 x15, .float .f32 x16, .float .f32 x17]))⟩], 1, false⟩))
                  (cond (!(r100 x3))
                   (some (.bool false, ⟨[⟨true, (some (.cells [.float .f32 x0, .float .f32 x1, .float .f32 x2, .float .f32 x3, .float .f32 x4, .float .f32 x5, .float .f32 x6, .float .f32 x7, .float .f32 x8, .float .f32 x9, .float .f32 x10, .float .f32 x11, .float .f32 x12, .float .f32 x13, .float .f32 x14, .float .f32 x15, .float .f32 x16, .float .f32 x17]))⟩], 1, false⟩))
                   (cond (fgt .f32 x3 1092616192)
                    (some (.bool false, ⟨[⟨true, (some (.cells [.float .f32 x0, .float .f32 x1, .float .f32 x2, .float .f32 x3, .float .f32 x4, .float .f32 x5, .float .f32 x6, .float .f32 x7, .float .f32 x8, .float .f32 x9, .float .f32 x10, .float .f32 x11, .float .f32 x12, .float .f32 x13, .float .f32 x14, .float .f32 x15, .float .f32 x16, .float .f32 x17]))⟩], 1, false⟩))
                    (cond (!(r100 x15))
                     (some (.bool false, ⟨[⟨true, (some (.cells [.float .f32 x0, .float .f32 x1, .float .f32 x2, .float .f32 x3, .float .f32 x4, .float .f32 x5, .float .f32 x6, .float .f32 x7, .float .f32 x8, .float .f32 x9, .float .f32 x10, .float .f32 x11, .float .f32 x12, .float .f32 x13, .float .f32 x14, .float .f32 x15, .float .f32 x16, .float .f32 x17]))⟩], 1, false⟩))
                     (cond (fgt .f32 x15 1092616192)
                      (some (.bool false, ⟨[⟨true, (some (.cells [.float .f32 x0, .float .f32 x1, .float .f32 x2, .float .f32 x3, .float .f32 x4, .float .f32 x5, .float .f32 x6, .float .f32 x7, .float .f32 x8, .float .f32 x9, .float .f32 x10, .float .f32 x11, .float .f32 x12, .float .f32 x13, .float .f32 x14, .float .f32 x15, .float .f32 x16, .float .f32 x17]))⟩], 1, false⟩))
                      (cond (fgt .f32 x9 3262119936 || feq .f32 x9 3262119936)
                       (cond (!(flt .f32 x9 1153138688 || feq .f32 x9 1153138688))
                        (some (.bool false, ⟨[⟨true, (some (.cells [.float .f32 x0, .float .f32 x1, .float .f32 x2, .float .f32 x3, .float .f32 x4, .float .f32 x5, .float .f32 x6, .float .f32 x7, .float .f32 x8, .float .f32 x9, .float .f32 x10, .float .f32 x11, .float .f32 x12, .float .f32 x13, .float .f32 x14, .float .f32 x15, .float .f32 x16, .float .f32 x17]))⟩], 1, false⟩))
                        (cond (!(r100 x4))
                         (some (.bool false, ⟨[⟨true, (some (.cells [.float .f32 x0, .float .f32 x1, .float .f32 x2, .float .f32 x3, .float .f32 x4, .float .f32 x5, .float .f32 x6, .float .f32 x7, .float .f32 x8, .float .f32 x9, .float .f32 x10, .float .f32 x11, .float .f32 x12, .float .f32 x13, .float .f32 x14, .float .f32 x15, .float .f32 x16, .float .f32 x17]))⟩], 1, false⟩))
                         (cond (fgt .f32 x4 1092616192)
                          (some (.bool false, ⟨[⟨true, (some (.cells [.float .f32 x0, .float .f32 x1, .float .f32 x2, .float .f32 x3, .float .f32 x4, .float .f32 x5, .float .f32 x6, .float .f32 x7, .float .f32 x8, .float .f32 x9, .float .f32 x10, .float .f32 x11, .float .f32 x12, .float .f32 x13, .float .f32 x14, .float .f32 x15, .float .f32 x16, .float .f32 x17]))⟩], 1, false⟩))
                          (cond (!(r100 x16))
                           (some (.bool false, ⟨[⟨true, (some (.cells [.float .f32 x0, .float .f32 x1, .float .f32 x2, .float .f32 x3, .float .f32 x4, .float .f32 x5, .float .f32 x6, .float .f32 x7, .float .f32 x8, .float .f32 x9, .float .f32 x10, .float .f32 x11, .float .f32 x12, .float .f32 x13, .float .f32 x14, .float .f32 x15, .float .f32 x16, .float .f32 x17]))⟩], 1, false⟩))
                           (cond (fgt .f32 x16 1092616192)
                            (some (.bool false, ⟨[⟨true, (some (.cells [.float .f32 x0, .float .f32 x1, .float .f32 x2, .float .f32 x3, .float .f32 x4, .float .f32 x5, .float .f32 x6, .float .f32 x7, .float .f32 x8, .float .f32 x9, .float .f32 x10, .float .f32 x11, .float .f32 x12, .float .f32 x13, .float .f32 x14, .float .f32 x15, .float .f32 x16, .float .f32 x17]))⟩], 1, false⟩))
                            (cond (fgt .f32 x10 3262119936 || feq .f32 x10 3262119936)
                             (cond (!(flt .f32 x10 1153138688 || feq .f32 x10 1153138688))
                              (some (.bool false, ⟨[⟨true, (some (.cells [.float .f32 x0, .float .f32 x1, .float .f32 x2, .float .f32 x3, .float .f32 x4, .float .f32 x5, .float .f32 x6, .float .f32 x7, .float .f32 x8, .float .f32 x9, .float .f32 x10, .float .f32 x11, .float .f32 x12, .float .f32 x13, .float .f32 x14, .float .f32 x15, .float .f32 x16, .float .f32 x17]))⟩], 1, false⟩))
                              (cond (!(r100 x5))
                               (some (.bool false, ⟨[⟨true, (some (.cells [.float .f32 x0, .float .f32 x1, .float .f32 x2, .float .f32 x3, .float .f32 x4, .float .f32 x5, .float .f32 x6, .float .f32 x7, .float .f32 x8, .float .f32 x9, .float .f32 x10, .float .f32 x11, .float .f32 x12, .float .f32 x13, .float .f32 x14, .float .f32 x15, .float .f32 x16, .float .f32 x17]))⟩], 1, false⟩))
                               (cond (fgt .f32 x5 1092616192)
                                (some (.bool false, ⟨[⟨true, (some (.cells [.float .f32 x0, .float .f32 x1, .float .f32 x2, .float .f32 x3, .float .f32 x4, .float .f32 x5, .float .f32 x6, .float .f32 x7, .float .f32 x8, .float .f32 x9, .float .f32 x10, .float .f32 x11, .float .f32 x12, .float .f32 x13, .float .f32 x14, .float .f32 x15, .float .f32 x16, .float .f32 x17]))⟩], 1, false⟩))
                                (cond (!(r100 x17))
                                 (some (.bool false, ⟨[⟨true, (some (.cells [.float .f32 x0, .float .f32 x1, .float .f32 x2, .float .f32 x3, .float .f32 x4, .float .f32 x5, .float .f32 x6, .float .f32 x7, .float .f32 x8, .float .f32 x9, .float .f32 x10, .float .f32 x11, .float .f32 x12, .float .f32 x13, .float .f32 x14, .float .f32 x15, .float .f32 x16, .float .f32 x17]))⟩], 1, false⟩))
                                 (cond (fgt .f32 x17 1092616192)
                                  (some (.bool false, ⟨[⟨true, (some (.cells [.float .f32 x0, .float .f32 x1, .float .f32 x2, .float .f32 x3, .float .f32 x4, .float .f32 x5, .float .f32 x6, .float .f32 x7, .float .f32 x8, .float .f32 x9, .float .f32 x10, .float .f32 x11, .float .f32 x12, .float .f32 x13, .float .f32 x14, .float .f32 x15, .float .f32 x16, .float .f32 x17]))⟩], 1, false⟩))
                                  (cond (fgt .f32 x11 3262119936 || feq .f32 x11 3262119936)
                                   (cond (!(flt .f32 x11 1153138688 || feq .f32 x11 1153138688))
                                    (some (.bool false, ⟨[⟨true, (some (.cells [.float .f32 x0, .float .f32 x1, .float .f32 x2, .float .f32 x3, .float .f32 x4, .float .f32 x5, .float .f32 x6, .float .f32 x7, .float .f32 x8, .float .f32 x9, .float .f32 x10, .float .f32 x11, .float .f32 x12, .float .f32 x13, .float .f32 x14, .float .f32 x15, .float .f32 x16, .float .f32 x17]))⟩], 1, false⟩))
                                    (some (.bool true, ⟨[⟨true, (some (.cells [.float .f32 x0, .float .f32 x1, .float .f32 x2, .float .f32 x3, .float .f32 x4, .float .f32 x5, .float .f32 x6, .float .f32 x7, .float .f32 x8, .float .f32 x9, .float .f32 x10, .float .f32 x11, .float .f32 x12, .float .f32 x13, .float .f32 x14, .float .f32 x15, .float .f32 x16, .float .f32 x17]))⟩], 1, false⟩)))
                                   (some (.bool false, ⟨[⟨true, (some (.cells [.float .f32 x0, .float .f32 x1, .float .f32 x2, .float .f32 x3, .float .f32 x4, .float .f32 x5, .float .f32 x6, .float .f32 x7, .float .f32 x8, .float .f32 x9, .float .f32 x10, .float .f32 x11, .float .f32 x12, .float .f32 x13, .float .f32 x14, .float .f32 x15, .float .f32 x16, .float .f32 x17]))⟩], 1, false⟩))))))))
                             (some (.bool false, ⟨[⟨true, (some (.cells [.float .f32 x0, .float .f32 x1, .float .f32 x2, .float .f32 x3, .float .f32 x4, .float .f32 x5, .float .f32 x6, .float .f32 x7, .float .f32 x8, .float .f32 x9, .float .f32 x10, .float .f32 x11, .float .f32 x12, .float .f32 x13, .float .f32 x14, .float .f32 x15, .float .f32 x16, .float .f32 x17]))⟩], 1, false⟩))))))))
                       (some (.bool false, ⟨[⟨true, (some (.cells [.float .f32 x0, .float .f32 x1, .float .f32 x2, .float .f32 x3, .float .f32 x4, .float .f32 x5, .float .f32 x6, .float .f32 x7, .float .f32 x8, .float .f32 x9, .float .f32 x10, .float .f32 x11, .float .f32 x12, .float .f32 x13, .float .f32 x14, .float .f32 x15, .float .f32 x16, .float .f32 x17]))⟩], 1, false⟩))))))))
                 (some (.bool false, ⟨[⟨true, (some (.cells [.float .f32 x0, .float .f32 x1, .float .f32 x2, .float .f32 x3, .float .f32 x4, .float .f32 x5, .float .f32 x6, .float .f32 x7, .float .f32 x8, .float .f32 x9, .float .f32 x10, .float .f32 x11, .float .f32 x12, .float .f32 x13, .float .f32 x14, .float .f32 x15, .float .f32 x16, .float .f32 x17]))⟩], 1, false⟩))))))))
           (some (.bool false, ⟨[⟨true, (some (.cells [.float .f32 x0, .float .f32 x1, .float .f32 x2, .float .f32 x3, .float .f32 x4, .float .f32 x5, .float .f32 x6, .float .f32 x7, .float .f32 x8, .float .f32 x9, .float .f32 x10, .float .f32 x11, .float .f32 x12, .float .f32 x13, .float .f32 x14, .float .f32 x15, .float .f32 x16, .float .f32 x17]))⟩], 1, false⟩))))))))
     (some (.bool false, ⟨[⟨true, (some (.cells [.float .f32 x0, .float .f32 x1, .float .f32 x2, .float .f32 x3, .float .f32 x4, .float .f32 x5, .float .f32 x6, .float .f32 x7, .float .f32 x8, .float .f32 x9, .float .f32 x10, .float .f32 x11, .float .f32 x12, .float .f32 x13, .float .f32 x14, .float .f32 x15, .float .f32 x16, .float .f32 x17]))⟩], 1, false⟩)))))))
set_option maxRecDepth 100000 in
theorem e57 (x0 : Nat) (x1 : Nat) (x2 : Nat) (x3 : Nat) (x4 : Nat) (x5 : Nat) (x6 : Nat) (x7 : Nat) (x8 : Nat) (x9 : Nat) (x10 : Nat) (x11 : Nat) (x12 : Nat) (x13 : Nat) (x14 : Nat) (x15 : Nat) (x16 : Nat) (x17 : Nat) : evFn Try.prog ext T4 200 Try.f57 [.pointer (some ⟨0, 0, some 0⟩)] ⟨[⟨true, (some (.cells [.float .f32 x0, .float .f32 x1, .float .f32 x2, .float .f32 x3, .float .f32 x4, .float .f32 x5, .float .f32 x6, .float .f32 x7, .float .f32 x8, .float .f32 x9, .float .f32 x10, .float .f32 x11, .float .f32 x12, .float .f32 x13, .float .f32 x14, .float .f32 x15, .float .f32 x16, .float .f32 x17]))⟩], 1, false⟩ = some (.bool (r57 x0 x1 x2 x3 x4 x5 x6 x7 x8 x9 x10 x11 x12 x13 x14 x15 x16 x17), ⟨[⟨true, (some (.cells [.float .f32 x0, .float .f32 x1, .float .f32 x2, .float .f32 x3, .float .f32 x4, .float .f32 x5, .float .f32 x6, .float .f32 x7, .float .f32 x8, .float .f32 x9, .float .f32 x10, .float .f32 x11, .float .f32 x12, .float .f32 x13, .float .f32 x14, .float .f32 x15, .float .f32 x16, .float .f32 x17]))⟩], 1, false⟩) :=
 (show evFn Try.prog ext T4 200 Try.f57 [.pointer (some ⟨0, 0, some 0⟩)] ⟨[⟨true, (some (.cells [.float .f32 x0, .float .f32 x1, .float .f32 x2, .float .f32 x3, .float .f32 x4, .float .f32 x5, .float .f32 x6, .float .f32 x7, .float .f32 x8, .float .f32 x9, .float .f32 x10, .float .f32 x11, .float .f32 x12, .float .f32 x13, .float .f32 x14, .float .f32 x15, .float .f32 x16, .float .f32 x17]))⟩], 1, false⟩ = t57 x0 x1 x2 x3 x4 x5 x6 x7 x8 x9 x10 x11 x12 x13 x14 x15 x16 x17 from by kernel_rfl).trans
 ((show t57 x0 x1 x2 x3 x4 x5 x6 x7 x8 x9 x10 x11 x12 x13 x14 x15 x16 x17 = a57 x0 x1 x2 x3 x4 x5 x6 x7 x8 x9 x10 x11 x12 x13 x14 x15 x16 x17 (r57 x0 x1 x2 x3 x4 x5 x6 x7 x8 x9 x10 x11 x12 x13 x14 x15 x16 x17) from (cond_app (a57 x0 x1 x2 x3 x4 x5 x6 x7 x8 x9 x10 x11 x12 x13 x14 x15 x16 x17) _ rfl (cond_app (a57 x0 x1 x2 x3 x4 x5 x6 x7 x8 x9 x10 x11 x12 x13 x14 x15 x16 x17) _ rfl (cond_app (a57 x0 x1 x2 x3 x4 x5 x6 x7 x8 x9 x10 x11 x12 x13 x14 x15 x16 x17) _ rfl (cond_app (a57 x0 x1 x2 x3 x4 x5 x6 x7 x8 x9 x10 x11 x12 x13 x14 x15 x16 x17) _ rfl (cond_app (a57 x0 x1 x2 x3 x4 x5 x6 x7 x8 x9 x10 x11 x12 x13 x14 x15 x16 x17) _ (cond_app (a57 x0 x1 x2 x3 x4 x5 x6 x7 x8 x9 x10 x11 x12 x13 x14 x15 x16 x17) _ rfl (cond_app (a57 x0 x1 x2 x3 x4 x5 x6 x7 x8 x9 x10 x11 x12 x13 x14 x15 x16 x17) _ rfl (cond_app (a57 x0 x1 x2 x3 x4 x5 x6 x7 x8 x9 x10 x11 x12 x13 x14 x15 x16 x17) _ rfl (cond_app (a57 x0 x1 x2 x3 x4 x5 x6 x7 x8 x9 x10 x11 x12 x13 x14 x15 x16 x17) _ rfl (cond_app (a57 x0 x1 x2 x3 x4 x5 x6 x7 x8 x9 x10 x11 x12 x13 x14 x15 x16 x17) _ rfl (cond_app (a57 x0 x1 x2 x3 x4 x5 x6 x7 x8 x9 x10 x11 x12 x13 x14 x15 x16 x17) _ (cond_app (a57 x0 x1 x2 x3 x4 x5 x6 x7 x8 x9 x10 x11 x12 x13 x14 x15 x16 x17) _ rfl (cond_app (a57 x0 x1 x2 x3 x4 x5 x6 x7 x8 x9 x10 x11 x12 x13 x14 x15 x16 x17) _ rfl (cond_app (a57 x0 x1 x2 x3 x4 x5 x6 x7 x8 x9 x10 x11 x12 x13 x14 x15 x16 x17) _ rfl (cond_app (a57 x0 x1 x2 x3 x4 x5 x6 x7 x8 x9 x10 x11 x12 x13 x14 x15 x16 x17) _ rfl (cond_app (a57 x0 x1 x2 x3 x4 x5 x6 x7 x8 x9 x10 x11 x12 x13 x14 x15 x16 x17) _ rfl (cond_app (a57 x0 x1 x2 x3 x4 x5 x6 x7 x8 x9 x10 x11 x12 x13 x14 x15 x16 x17) _ (cond_app (a57 x0 x1 x2 x3 x4 x5 x6 x7 x8 x9 x10 x11 x12 x13 x14 x15 x16 x17) _ rfl (cond_app (a57 x0 x1 x2 x3 x4 x5 x6 x7 x8 x9 x10 x11 x12 x13 x14 x15 x16 x17) _ rfl (cond_app (a57 x0 x1 x2 x3 x4 x5 x6 x7 x8 x9 x10 x11 x12 x13 x14 x15 x16 x17) _ rfl (cond_app (a57 x0 x1 x2 x3 x4 x5 x6 x7 x8 x9 x10 x11 x12 x13 x14 x15 x16 x17) _ rfl (cond_app (a57 x0 x1 x2 x3 x4 x5 x6 x7 x8 x9 x10 x11 x12 x13 x14 x15 x16 x17) _ rfl (cond_app (a57 x0 x1 x2 x3 x4 x5 x6 x7 x8 x9 x10 x11 x12 x13 x14 x15 x16 x17) _ (cond_app (a57 x0 x1 x2 x3 x4 x5 x6 x7 x8 x9 x10 x11 x12 x13 x14 x15 x16 x17) _ rfl (cond_app (a57 x0 x1 x2 x3 x4 x5 x6 x7 x8 x9 x10 x11 x12 x13 x14 x15 x16 x17) _ rfl (cond_app (a57 x0 x1 x2 x3 x4 x5 x6 x7 x8 x9 x10 x11 x12 x13 x14 x15 x16 x17) _ rfl (cond_app (a57 x0 x1 x2 x3 x4 x5 x6 x7 x8 x9 x10 x11 x12 x13 x14 x15 x16 x17) _ rfl (cond_app (a57 x0 x1 x2 x3 x4 x5 x6 x7 x8 x9 x10 x11 x12 x13 x14 x15 x16 x17) _ rfl (cond_app (a57 x0 x1 x2 x3 x4 x5 x6 x7 x8 x9 x10 x11 x12 x13 x14 x15 x16 x17) _ (cond_app (a57 x0 x1 x2 x3 x4 x5 x6 x7 x8 x9 x10 x11 x12 x13 x14 x15 x16 x17) _ rfl (cond_app (a57 x0 x1 x2 x3 x4 x5 x6 x7 x8 x9 x10 x11 x12 x13 x14 x15 x16 x17) _ rfl (cond_app (a57 x0 x1 x2 x3 x4 x5 x6 x7 x8 x9 x10 x11 x12 x13 x14 x15 x16 x17) _ rfl (cond_app (a57 x0 x1 x2 x3 x4 x5 x6 x7 x8 x9 x10 x11 x12 x13 x14 x15 x16 x17) _ rfl (cond_app (a57 x0 x1 x2 x3 x4 x5 x6 x7 x8 x9 x10 x11 x12 x13 x14 x15 x16 x17) _ rfl (cond_app (a57 x0 x1 x2 x3 x4 x5 x6 x7 x8 x9 x10 x11 x12 x13 x14 x15 x16 x17) _ (cond_app (a57 x0 x1 x2 x3 x4 x5 x6 x7 x8 x9 x10 x11 x12 x13 x14 x15 x16 x17) _ rfl rfl) rfl)))))) rfl)))))) rfl)))))) rfl)))))) rfl)))))) rfl)))))))
def T5 : CallF := addF T4 57 s57
set_option maxRecDepth 100000 in
theorem ok5 : CfOk Try.prog T5 := by
  refine cfOk_add ok4 fun args s r s' h1 h2 h3 => ?_
  unfold s57 at h3; split at h3
  · rename_i h; split at h3
    · rename_i hc; obtain ⟨rfl, rfl, rfl⟩ := hc; exact callOk ok4 Try.func57 h1 h2 h (e57 _ _ _ _ _ _ _ _ _ _ _ _ _ _ _ _ _ _) rfl h3
    · exact ok4 _ _ _ _ _ h1 h2 h3
  · exact ok4 _ _ _ _ _ h1 h2 h3

/-- spec.l01Sum -/
def r58 (x0 : Nat) (x1 : Nat) (x2 : Nat) (x3 : Nat) (x4 : Nat) (x5 : Nat) (x6 : Nat) (x7 : Nat) (x8 : Nat) (x9 : Nat) (x10 : Nat) (x11 : Nat) (x12 : Nat) (x13 : Nat) (x14 : Nat) (x15 : Nat) (x16 : Nat) (x17 : Nat) : Nat :=
 ((fadd .f32 (fadd .f32 (fadd .f32 (fadd .f32 (fadd .f32 x12 x13) x14) x15) x16) x17))
def s58 (args : List Value) (s : St) : Res :=
 match args, s.h with
 | [.pointer (some ⟨b0, o0, some s0⟩)], [⟨true, some (.cells [.float .f32 x0, .float .f32 x1, .float .f32 x2, .float .f32 x3, .float .f32 x4, .float .f32 x5, .float .f32 x6, .float .f32 x7, .float .f32 x8, .float .f32 x9, .float .f32 x10, .float .f32 x11, .float .f32 x12, .float .f32 x13, .float .f32 x14, .float .f32 x15, .float .f32 x16, .float .f32 x17])⟩] => if b0 = 0 ∧ o0 = 0 ∧ s0 = 12 then some (.float .f32 (r58 x0 x1 x2 x3 x4 x5 x6 x7 x8 x9 x10 x11 x12 x13 x14 x15 x16 x17), ⟨[⟨true, (some (.cells [.float .f32 x0, .float .f32 x1, .float .f32 x2, .float .f32 x3, .float .f32 x4, .float .f32 x5, .float .f32 x6, .float .f32 x7, .float .f32 x8, .float .f32 x9, .float .f32 x10, .float .f32 x11, .float .f32 x12, .float .f32 x13, .float .f32 x14, .float .f32 x15, .float .f32 x16, .float .f32 x17]))⟩], 1, false⟩) else T5 58 args s
 | _, _ => T5 58 args s
def a58 (x0 : Nat) (x1 : Nat) (x2 : Nat) (x3 : Nat) (x4 : Nat) (x5 : Nat) (x6 : Nat) (x7 : Nat) (x8 : Nat) (x9 : Nat) (x10 : Nat) (x11 : Nat) (x12 : Nat) (x13 : Nat) (x14 : Nat) (x15 : Nat) (x16 : Nat) (x17 : Nat) (p : Nat) : Res := some (.float .f32 p, ⟨[⟨true, (some (.cells [.float .f32 x0, .float .f32 x1, .float .f32 x2, .float .f32 x3, .float .f32 x4, .float .f32 x5, .float .f32 x6, .float .f32 x7, .float .f32 x8, .float .f32 x9, .float .f32 x10, .float .f32 x11, .float .f32 x12, .float .f32 x13, .float .f32 x14, .float .f32 x15, .float .f32 x16, .float .f32 x17]))⟩], 1, false⟩)
def t58 (x0 : Nat) (x1 : Nat) (x2 : Nat) (x3 : Nat) (x4 : Nat) (x5 : Nat) (x6 : Nat) (x7 : Nat) (x8 : Nat) (x9 : Nat) (x10 : Nat) (x11 : Nat) (x12 : Nat) (x13 : Nat) (x14 : Nat) (x15 : Nat) (x16 : Nat) (x17 : Nat) : Res :=
 (some (.float .f32 (fadd .f32 (fadd .f32 (fadd .f32 (fadd .f32 (fadd .f32 x12 x13) x14) x15) x16) x17), ⟨[⟨true, (some (.cells [.float .f32 x0, .float .f32 x1, .float .f32 x2, .float .f32 x3, .float .f32 x4, .float .f32 x5, .float .f32 x6, .float .f32 x7, .float .f32 x8, .float .f32 x9, .float .f32 x10, .float .f32 x11, .float .f32 x12, .float .f32 x13, .float .f32 x14, .float .f32 x15, .float .f32 x16, .float .f32 x17]))⟩], 1, false⟩))
set_option maxRecDepth 100000 in
theorem e58 (x0 : Nat) (x1 : Nat) (x2 : Nat) (x3 : Nat) (x4 : Nat) (x5 : Nat) (x6 : Nat) (x7 : Nat) (x8 : Nat) (x9 : Nat) (x10 : Nat) (x11 : Nat) (x12 : Nat) (x13 : Nat) (x14 : Nat) (x15 : Nat) (x16 : Nat) (x17 : Nat) : evFn Try.prog ext T5 200 Try.f58 [.pointer (some ⟨0, 0, some 12⟩)] ⟨[⟨true, (some (.cells [.float .f32 x0, .float .f32 x1, .float .f32 x2, .float .f32 x3, .float .f32 x4, .float .f32 x5, .float .f32 x6, .float .f32 x7, .float .f32 x8, .float .f32 x9, .float .f32 x10, .float .f32 x11, .float .f32 x12, .float .f32 x13, .float .f32 x14, .float .f32 x15, .float .f32 x16, .float .f32 x17]))⟩], 1, false⟩ = some (.float .f32 (r58 x0 x1 x2 x3 x4 x5 x6 x7 x8 x9 x10 x11 x12 x13 x14 x15 x16 x17), ⟨[⟨true, (some (.cells [.float .f32 x0, .float .f32 x1, .float .f32 x2, .float .f32 x3, .float .f32 x4, .float .f32 x5, .float .f32 x6, .float .f32 x7, .float .f32 x8, .float .f32 x9, .float .f32 x10, .float .f32 x11, .float .f32 x12, .float .f32 x13, .float .f32 x14, .float .f32 x15, .float .f32 x16, .float .f32 x17]))⟩], 1, false⟩) :=
 (show evFn Try.prog ext T5 200 Try.f58 [.pointer (some ⟨0, 0, some 12⟩)] ⟨[⟨true, (some (.cells [.float .f32 x0, .float .f32 x1, .float .f32 x2, .float .f32 x3, .float .f32 x4, .float .f32 x5, .float .f32 x6, .float .f32 x7, .float .f32 x8, .float .f32 x9, .float .f32 x10, .float .f32 x11, .float .f32 x12, .float .f32 x13, .float .f32 x14, .float .f32 x15, .float .f32 x16, .float .f32 x17]))⟩], 1, false⟩ = t58 x0 x1 x2 x3 x4 x5 x6 x7 x8 x9 x10 x11 x12 x13 x14 x15 x16 x17 from by kernel_rfl).trans
 ((show t58 x0 x1 x2 x3 x4 x5 x6 x7 x8 x9 x10 x11 x12 x13 x14 x15 x16 x17 = a58 x0 x1 x2 x3 x4 x5 x6 x7 x8 x9 x10 x11 x12 x13 x14 x15 x16 x17 (r58 x0 x1 x2 x3 x4 x5 x6 x7 x8 x9 x10 x11 x12 x13 x14 x15 x16 x17) from rfl))
def T6 : CallF := addF T5 58 s58
set_option maxRecDepth 100000 in
theorem ok6 : CfOk Try.prog T6 := by
  refine cfOk_add ok5 fun args s r s' h1 h2 h3 => ?_
  unfold s58 at h3; split at h3
  · rename_i h; split at h3
    · rename_i hc; obtain ⟨rfl, rfl, rfl⟩ := hc; exact callOk ok5 Try.func58 h1 h2 h (e58 _ _ _ _ _ _ _ _ _ _ _ _ _ _ _ _ _ _) rfl h3
    · exact ok5 _ _ _ _ _ h1 h2 h3
  · exact ok5 _ _ _ _ _ h1 h2 h3

/-- spec.FuelOf -/
def r11 (x0 : Nat) (x1 : Nat) (x2 : Nat) (x3 : Nat) (x4 : Nat) (x5 : Nat) (x6 : Nat) (x7 : Nat) (x8 : Nat) (x9 : Nat) (x10 : Nat) (x11 : Nat) (x12 : Nat) (x13 : Nat) (x14 : Nat) (x15 : Nat) (x16 : Nat) (x17 : Nat) : Nat × Int :=
 cond (!(r57 x0 x1 x2 x3 x4 x5 x6 x7 x8 x9 x10 x11 x12 x13 x14 x15 x16 x17))
  (0, 1)
  ((r58 x0 x1 x2 x3 x4 x5 x6 x7 x8 x9 x10 x11 x12 x13 x14 x15 x16 x17), 0)
def s11 (args : List Value) (s : St) : Res :=
 match args, s.h with
 | [.agg ⟨[.float .f32 x0, .float .f32 x1, .float .f32 x2, .float .f32 x3, .float .f32 x4, .float .f32 x5, .float .f32 x6, .float .f32 x7, .float .f32 x8, .float .f32 x9, .float .f32 x10, .float .f32 x11, .float .f32 x12, .float .f32 x13, .float .f32 x14, .float .f32 x15, .float .f32 x16, .float .f32 x17]⟩], [] => some (.tuple #[.float .f32 ((r11 x0 x1 x2 x3 x4 x5 x6 x7 x8 x9 x10 x11 x12 x13 x14 x15 x16 x17).1), .int .i64 ((r11 x0 x1 x2 x3 x4 x5 x6 x7 x8 x9 x10 x11 x12 x13 x14 x15 x16 x17).2)], st0)
 | _, _ => T6 11 args s
def a11 (x0 : Nat) (x1 : Nat) (x2 : Nat) (x3 : Nat) (x4 : Nat) (x5 : Nat) (x6 : Nat) (x7 : Nat) (x8 : Nat) (x9 : Nat) (x10 : Nat) (x11 : Nat) (x12 : Nat) (x13 : Nat) (x14 : Nat) (x15 : Nat) (x16 : Nat) (x17 : Nat) (p : Nat × Int) : Res := some (.tuple #[.float .f32 (p.1), .int .i64 (p.2)], st0)
def t11 (x0 : Nat) (x1 : Nat) (x2 : Nat) (x3 : Nat) (x4 : Nat) (x5 : Nat) (x6 : Nat) (x7 : Nat) (x8 : Nat) (x9 : Nat) (x10 : Nat) (x11 : Nat) (x12 : Nat) (x13 : Nat) (x14 : Nat) (x15 : Nat) (x16 : Nat) (x17 : Nat) : Res :=
 (cond (!(r57 x0 x1 x2 x3 x4 x5 x6 x7 x8 x9 x10 x11 x12 x13 x14 x15 x16 x17))
 (some (.tuple #[.float .f32 0, .int .i64 1], st0))
 (some (.tuple #[.float .f32 (r58 x0 x1 x2 x3 x4 x5 x6 x7 x8 x9 x10 x11 x12 x13 x14 x15 x16 x17), .int .i64 0], st0)))
set_option maxRecDepth 100000 in
theorem e11 (x0 : Nat) (x1 : Nat) (x2 : Nat) (x3 : Nat) (x4 : Nat) (x5 : Nat) (x6 : Nat) (x7 : Nat) (x8 : Nat) (x9 : Nat) (x10 : Nat) (x11 : Nat) (x12 : Nat) (x13 : Nat) (x14 : Nat) (x15 : Nat) (x16 : Nat) (x17 : Nat) : evFn Try.prog ext T6 200 Try.f11 [.agg #[.float .f32 x0, .float .f32 x1, .float .f32 x2, .float .f32 x3, .float .f32 x4, .float .f32 x5, .float .f32 x6, .float .f32 x7, .float .f32 x8, .float .f32 x9, .float .f32 x10, .float .f32 x11, .float .f32 x12, .float .f32 x13, .float .f32 x14, .float .f32 x15, .float .f32 x16, .float .f32 x17]] st0 = some (.tuple #[.float .f32 ((r11 x0 x1 x2 x3 x4 x5 x6 x7 x8 x9 x10 x11 x12 x13 x14 x15 x16 x17).1), .int .i64 ((r11 x0 x1 x2 x3 x4 x5 x6 x7 x8 x9 x10 x11 x12 x13 x14 x15 x16 x17).2)], st0) :=
 (show evFn Try.prog ext T6 200 Try.f11 [.agg #[.float .f32 x0, .float .f32 x1, .float .f32 x2, .float .f32 x3, .float .f32 x4, .float .f32 x5, .float .f32 x6, .float .f32 x7, .float .f32 x8, .float .f32 x9, .float .f32 x10, .float .f32 x11, .float .f32 x12, .float .f32 x13, .float .f32 x14, .float .f32 x15, .float .f32 x16, .float .f32 x17]] st0 = t11 x0 x1 x2 x3 x4 x5 x6 x7 x8 x9 x10 x11 x12 x13 x14 x15 x16 x17 from by kernel_rfl).trans
 ((show t11 x0 x1 x2 x3 x4 x5 x6 x7 x8 x9 x10 x11 x12 x13 x14 x15 x16 x17 = a11 x0 x1 x2 x3 x4 x5 x6 x7 x8 x9 x10 x11 x12 x13 x14 x15 x16 x17 (r11 x0 x1 x2 x3 x4 x5 x6 x7 x8 x9 x10 x11 x12 x13 x14 x15 x16 x17) from (cond_app (a11 x0 x1 x2 x3 x4 x5 x6 x7 x8 x9 x10 x11 x12 x13 x14 x15 x16 x17) _ rfl rfl)))
def T7 : CallF := addF T6 11 s11
set_option maxRecDepth 100000 in
theorem ok7 : CfOk Try.prog T7 := by
  refine cfOk_add ok6 fun args s r s' h1 h2 h3 => ?_
  unfold s11 at h3; split at h3
  · rename_i h; exact callOk ok6 Try.func11 h1 h2 h (e11 _ _ _ _ _ _ _ _ _ _ _ _ _ _ _ _ _ _) rfl h3
  · exact ok6 _ _ _ _ _ h1 h2 h3

/-- math.IsNaN -/
def r121 (x0 : Nat) : Bool :=
 ((!feq .f64 x0 x0))
def s121 (args : List Value) (s : St) : Res :=
 match args, s.h with
 | [.float .f64 x0], [] => some (.bool (r121 x0), st0)
 | _, _ => T7 121 args s
def a121 (x0 : Nat) (p : Bool) : Res := some (.bool p, st0)
def t121 (x0 : Nat) : Res :=
 (some (.bool (!feq .f64 x0 x0), st0))
set_option maxRecDepth 100000 in
theorem e121 (x0 : Nat) : evFn Try.prog ext T7 200 Try.f121 [.float .f64 x0] st0 = some (.bool (r121 x0), st0) :=
 (show evFn Try.prog ext T7 200 Try.f121 [.float .f64 x0] st0 = t121 x0 from by kernel_rfl).trans
 ((show t121 x0 = a121 x0 (r121 x0) from rfl))
def T8 : CallF := addF T7 121 s121
set_option maxRecDepth 100000 in
theorem ok8 : CfOk Try.prog T8 := by
  refine cfOk_add ok7 fun args s r s' h1 h2 h3 => ?_
  unfold s121 at h3; split at h3
  · rename_i h; exact callOk ok7 Try.func121 h1 h2 h (e121 _) rfl h3
  · exact ok7 _ _ _ _ _ h1 h2 h3

/-- math.Abs -/
def r126 (x0 : Nat) : Nat :=
 cond (!isN .f64 x0)
  ((Int.toNat (bits .andNot .u64 ((x0 : Nat) : Int) 9223372036854775808)))
  (9221120237041090560)
def s126 (args : List Value) (s : St) : Res :=
 match args, s.h with
 | [.float .f64 x0], [] => some (.float .f64 (r126 x0), st0)
 | _, _ => T8 126 args s
def a126 (x0 : Nat) (p : Nat) : Res := some (.float .f64 p, st0)
def t126 (x0 : Nat) : Res :=
 (cond (!isN .f64 x0)
 (some (.float .f64 (Int.toNat (bits .andNot .u64 ((x0 : Nat) : Int) 9223372036854775808)), st0))
 (some (.float .f64 9221120237041090560, st0)))
set_option maxRecDepth 100000 in
theorem e126 (x0 : Nat) : evFn Try.prog ext T8 200 Try.f126 [.float .f64 x0] st0 = some (.float .f64 (r126 x0), st0) :=
 (show evFn Try.prog ext T8 200 Try.f126 [.float .f64 x0] st0 = t126 x0 from by kernel_rfl).trans
 ((show t126 x0 = a126 x0 (r126 x0) from (cond_app (a126 x0) _ rfl rfl)))
def T9 : CallF := addF T8 126 s126
set_option maxRecDepth 100000 in
theorem ok9 : CfOk Try.prog T9 := by
  refine cfOk_add ok8 fun args s r s' h1 h2 h3 => ?_
  unfold s126 at h3; split at h3
  · rename_i h; exact callOk ok8 Try.func126 h1 h2 h (e126 _) rfl h3
  · exact ok8 _ _ _ _ _ h1 h2 h3

/-- math.IsInf -/
def r122 (x0 : Nat) (x1 : Int) : Bool :=
 cond ((x1 : Int) == 0)
  ((fgt .f64 (r126 x0) 9218868437227405311))
  (cond (decide ((x1 : Int) < 0))
   ((fgt .f64 (fneg .f64 x0) 9218868437227405311))
   ((fgt .f64 x0 9218868437227405311)))
def s122 (args : List Value) (s : St) : Res :=
 match args, s.h with
 | [.float .f64 x0, .int .i64 x1], [] => some (.bool (r122 x0 x1), st0)
 | _, _ => T9 122 args s
def a122 (x0 : Nat) (x1 : Int) (p : Bool) : Res := some (.bool p, st0)
def t122 (x0 : Nat) (x1 : Int) : Res :=
 (cond ((x1 : Int) == 0)
 (some (.bool (fgt .f64 (r126 x0) 9218868437227405311), st0))
 (cond (decide ((x1 : Int) < 0))
  (some (.bool (fgt .f64 (fneg .f64 x0) 9218868437227405311), st0))
  (some (.bool (fgt .f64 x0 9218868437227405311), st0))))
set_option maxRecDepth 100000 in
theorem e122 (x0 : Nat) (x1 : Int) : evFn Try.prog ext T9 200 Try.f122 [.float .f64 x0, .int .i64 x1] st0 = some (.bool (r122 x0 x1), st0) :=
 (show evFn Try.prog ext T9 200 Try.f122 [.float .f64 x0, .int .i64 x1] st0 = t122 x0 x1 from by kernel_rfl).trans
 ((show t122 x0 x1 = a122 x0 x1 (r122 x0 x1) from (cond_app (a122 x0 x1) _ rfl (cond_app (a122 x0 x1) _ rfl rfl))))
def T10 : CallF := addF T9 122 s122
set_option maxRecDepth 100000 in
theorem ok10 : CfOk Try.prog T10 := by
  refine cfOk_add ok9 fun args s r s' h1 h2 h3 => ?_
  unfold s122 at h3; split at h3
  · rename_i h; exact callOk ok9 Try.func122 h1 h2 h (e122 _ _) rfl h3
  · exact ok9 _ _ _ _ _ h1 h2 h3

/-- impl.isFinite -/
def r107 (x0 : Nat) : Bool :=
 cond (r121 (widen x0))
  (false)
  (cond (r122 (widen x0) 0)
   (false)
   (true))
def s107 (args : List Value) (s : St) : Res :=
 match args, s.h with
 | [.slice (some ⟨b0, o0, some s0⟩) l0 c0], [⟨true, some (.tab [.fl .f32] [[.ofNat x0]])⟩] => if b0 = 0 ∧ o0 = 0 ∧ s0 = 0 ∧ l0 = 1 ∧ c0 = 1 then some (.bool (r107 x0), ⟨[⟨true, (some (.tab [.fl .f32] [[((x0 : Nat) : Int)]]))⟩], 1, false⟩) else T10 107 args s
 | _, _ => T10 107 args s
def a107 (x0 : Nat) (p : Bool) : Res := some (.bool p, ⟨[⟨true, (some (.tab [.fl .f32] [[((x0 : Nat) : Int)]]))⟩], 1, false⟩)
def t107 (x0 : Nat) : Res :=
 (cond (r121 (widen x0))
 (some (.bool false, ⟨[⟨true, (some (.tab [.fl .f32] [[((x0 : Nat) : Int)]]))⟩], 1, false⟩))
 (cond (r122 (widen x0) 0)
  (some (.bool false, ⟨[⟨true, (some (.tab [.fl .f32] [[((x0 : Nat) : Int)]]))⟩], 1, false⟩))
  (some (.bool true, ⟨[⟨true, (some (.tab [.fl .f32] [[((x0 : Nat) : Int)]]))⟩], 1, false⟩))))
set_option maxRecDepth 100000 in
theorem e107 (x0 : Nat) : evFn Try.prog ext T10 200 Try.f107 [.slice (some ⟨0, 0, some 0⟩) 1 1] ⟨[⟨true, (some (.tab [.fl .f32] [[((x0 : Nat) : Int)]]))⟩], 1, false⟩ = some (.bool (r107 x0), ⟨[⟨true, (some (.tab [.fl .f32] [[((x0 : Nat) : Int)]]))⟩], 1, false⟩) :=
 (show evFn Try.prog ext T10 200 Try.f107 [.slice (some ⟨0, 0, some 0⟩) 1 1] ⟨[⟨true, (some (.tab [.fl .f32] [[((x0 : Nat) : Int)]]))⟩], 1, false⟩ = t107 x0 from by kernel_rfl).trans
 ((show t107 x0 = a107 x0 (r107 x0) from (cond_app (a107 x0) _ rfl (cond_app (a107 x0) _ rfl rfl))))
def T11 : CallF := addF T10 107 s107
set_option maxRecDepth 100000 in
theorem ok11 : CfOk Try.prog T11 := by
  refine cfOk_add ok10 fun args s r s' h1 h2 h3 => ?_
  unfold s107 at h3; split at h3
  · rename_i h; split at h3
    · rename_i hc; obtain ⟨rfl, rfl, rfl, rfl, rfl⟩ := hc; exact callOk ok10 Try.func107 h1 h2 h (e107 _) rfl h3
    · exact ok10 _ _ _ _ _ h1 h2 h3
  · exact ok10 _ _ _ _ _ h1 h2 h3

/-- impl.IsAmount -/
def r91 (x0 : Nat) : Bool :=
 cond (r107 x0)
  (cond (fgt .f32 x0 0 || feq .f32 x0 0)
   ((((Int.fdiv ((x0 : Nat) : Int) (2 ^ (min (31 : Int).toNat (IntKind.bits .u32)))) : Int) == 0))
   (false))
  (false)
def s91 (args : List Value) (s : St) : Res :=
 match args, s.h with
 | [.float .f32 x0], [] => some (.bool (r91 x0), st0)
 | _, _ => T11 91 args s
def a91 (x0 : Nat) (p : Bool) : Res := some (.bool p, st0)
def t91 (x0 : Nat) : Res :=
 (cond (r107 x0)
 (cond (fgt .f32 x0 0 || feq .f32 x0 0)
  (some (.bool (((Int.fdiv ((x0 : Nat) : Int) (2 ^ (min (31 : Int).toNat (IntKind.bits .u32)))) : Int) == 0), st0))
  (some (.bool false, st0)))
 (some (.bool false, st0)))
set_option maxRecDepth 100000 in
theorem e91 (x0 : Nat) : evFn Try.prog ext T11 200 Try.f91 [.float .f32 x0] st0 = some (.bool (r91 x0), st0) :=
 (show evFn Try.prog ext T11 200 Try.f91 [.float .f32 x0] st0 = (cond (r107 x0)
 (cond (fgt .f32 x0 0 || feq .f32 x0 0)
  (cond (!isN .f32 x0)
   (some (.bool (((Int.fdiv ((x0 : Nat) : Int) (2 ^ (min (31 : Int).toNat (IntKind.bits .u32)))) : Int) == 0), st0))
   none)
  (some (.bool false, st0)))
 (some (.bool false, st0))) from by kernel_rfl).trans
 (show (cond (r107 x0)
 (cond (fgt .f32 x0 0 || feq .f32 x0 0)
  (cond (!isN .f32 x0)
   (some (.bool (((Int.fdiv ((x0 : Nat) : Int) (2 ^ (min (31 : Int).toNat (IntKind.bits .u32)))) : Int) == 0), st0))
   none)
  (some (.bool false, st0)))
 (some (.bool false, st0))) = t91 x0 from by
  unfold t91
  cases hn1 : isN .f32 x0 with
  | false =>
    rfl
  | true =>
    simp only [flt_nanl _ hn1, flt_nanr _ hn1, fgt_nanl _ hn1, fgt_nanr _ hn1, feq_nanl _ hn1, feq_nanr _ hn1]
    rfl) |>.trans
 ((show t91 x0 = a91 x0 (r91 x0) from (cond_app (a91 x0) _ (cond_app (a91 x0) _ rfl rfl) rfl)))
def T12 : CallF := addF T11 91 s91
set_option maxRecDepth 100000 in
theorem ok12 : CfOk Try.prog T12 := by
  refine cfOk_add ok11 fun args s r s' h1 h2 h3 => ?_
  unfold s91 at h3; split at h3
  · rename_i h; exact callOk ok11 Try.func91 h1 h2 h (e91 _) rfl h3
  · exact ok11 _ _ _ _ _ h1 h2 h3

/-- impl.isUpTo -/
def r71 (x0 : Nat) (x1 : Nat) : Bool :=
 cond (r91 x0)
  ((flt .f32 x0 x1 || feq .f32 x0 x1))
  (false)
def s71 (args : List Value) (s : St) : Res :=
 match args, s.h with
 | [.float .f32 x0, .float .f32 x1], [] => some (.bool (r71 x0 x1), st0)
 | _, _ => T12 71 args s
def a71 (x0 : Nat) (x1 : Nat) (p : Bool) : Res := some (.bool p, st0)
def t71 (x0 : Nat) (x1 : Nat) : Res :=
 (cond (r91 x0)
 (some (.bool (flt .f32 x0 x1 || feq .f32 x0 x1), st0))
 (some (.bool false, st0)))
set_option maxRecDepth 100000 in
theorem e71 (x0 : Nat) (x1 : Nat) : evFn Try.prog ext T12 200 Try.f71 [.float .f32 x0, .float .f32 x1] st0 = some (.bool (r71 x0 x1), st0) :=
 (show evFn Try.prog ext T12 200 Try.f71 [.float .f32 x0, .float .f32 x1] st0 = t71 x0 x1 from by kernel_rfl).trans
 ((show t71 x0 x1 = a71 x0 x1 (r71 x0 x1) from (cond_app (a71 x0 x1) _ rfl rfl)))
def T13 : CallF := addF T12 71 s71
set_option maxRecDepth 100000 in
theorem ok13 : CfOk Try.prog T13 := by
  refine cfOk_add ok12 fun args s r s' h1 h2 h3 => ?_
  unfold s71 at h3; split at h3
  · rename_i h; exact callOk ok12 Try.func71 h1 h2 h (e71 _ _) rfl h3
  · exact ok12 _ _ _ _ _ h1 h2 h3

/-- impl.between -/
def r72 (x0 : Nat) (x1 : Nat) (x2 : Nat) : Bool :=
 cond (fgt .f32 x0 x1 || feq .f32 x0 x1)
  ((flt .f32 x0 x2 || feq .f32 x0 x2))
  (false)
def s72 (args : List Value) (s : St) : Res :=
 match args, s.h with
 | [.float .f32 x0, .float .f32 x1, .float .f32 x2], [] => some (.bool (r72 x0 x1 x2), st0)
 | _, _ => T13 72 args s
def a72 (x0 : Nat) (x1 : Nat) (x2 : Nat) (p : Bool) : Res := some (.bool p, st0)
def t72 (x0 : Nat) (x1 : Nat) (x2 : Nat) : Res :=
 (cond (fgt .f32 x0 x1 || feq .f32 x0 x1)
 (some (.bool (flt .f32 x0 x2 || feq .f32 x0 x2), st0))
 (some (.bool false, st0)))
set_option maxRecDepth 100000 in
theorem e72 (x0 : Nat) (x1 : Nat) (x2 : Nat) : evFn Try.prog ext T13 200 Try.f72 [.float .f32 x0, .float .f32 x1, .float .f32 x2] st0 = some (.bool (r72 x0 x1 x2), st0) :=
 (show evFn Try.prog ext T13 200 Try.f72 [.float .f32 x0, .float .f32 x1, .float .f32 x2] st0 = t72 x0 x1 x2 from by kernel_rfl).trans
 ((show t72 x0 x1 x2 = a72 x0 x1 x2 (r72 x0 x1 x2) from (cond_app (a72 x0 x1 x2) _ rfl rfl)))
def T14 : CallF := addF T13 72 s72
set_option maxRecDepth 100000 in
theorem ok14 : CfOk Try.prog T14 := by
  refine cfOk_add ok13 fun args s r s' h1 h2 h3 => ?_
  unfold s72 at h3; split at h3
  · rename_i h; exact callOk ok13 Try.func72 h1 h2 h (e72 _ _ _) rfl h3
  · exact ok13 _ _ _ _ _ h1 h2 h3

/-- impl.ValidWood -/
def r27 (x0 : Nat) (x1 : Nat) (x2 : Nat) (x3 : Nat) (x4 : Nat) (x5 : Nat) (x6 : Nat) (x7 : Nat) (x8 : Nat) (x9 : Nat) (x10 : Nat) (x11 : Nat) (x12 : Nat) (x13 : Nat) (x14 : Nat) (x15 : Nat) (x16 : Nat) (x17 : Nat) : Bool :=
 cond (!(r71 x0 1092616192))
  (false)
  (cond (!(r71 x12 1092616192))
   (false)
   (cond (!(r72 x6 3262119936 1153138688))
    (false)
    (cond (!(r71 x1 1092616192))
     (false)
     (cond (!(r71 x13 1092616192))
      (false)
      (cond (!(r72 x7 3262119936 1153138688))
       (false)
       (cond (!(r71 x2 1092616192))
        (false)
        (cond (!(r71 x14 1092616192))
         (false)
         (cond (!(r72 x8 3262119936 1153138688))
          (false)
          (cond (!(r71 x3 1092616192))
           (false)
           (cond (!(r71 x15 1092616192))
            (false)
            (cond (!(r72 x9 3262119936 1153138688))
             (false)
             (cond (!(r71 x4 1092616192))
              (false)
              (cond (!(r71 x16 1092616192))
               (false)
               (cond (!(r72 x10 3262119936 1153138688))
                (false)
                (cond (!(r71 x5 1092616192))
                 (false)
                 (cond (!(r71 x17 1092616192))
                  (false)
                  (cond (!(r72 x11 3262119936 1153138688))
                   (false)
                   (true))))))))))))))))))
def s27 (args : List Value) (s : St) : Res :=
 match args, s.h with
 | [.agg ⟨[.float .f32 x0, .float .f32 x1, .float .f32 x2, .float .f32 x3, .float .f32 x4, .float .f32 x5, .float .f32 x6, .float .f32 x7, .float .f32 x8, .float .f32 x9, .float .f32 x10, .float .f32 x11, .float .f32 x12, .float .f32 x13, .float .f32 x14, .float .f32 x15, .float .f32 x16, .float .f32 x17]⟩], [] => some (.bool (r27 x0 x1 x2 x3 x4 x5 x6 x7 x8 x9 x10 x11 x12 x13 x14 x15 x16 x17), st0)
 | _, _ => T14 27 args s
def a27 (x0 : Nat) (x1 : Nat) (x2 : Nat) (x3 : Nat) (x4 : Nat) (x5 : Nat) (x6 : Nat) (x7 : Nat) (x8 : Nat) (x9 : Nat) (x10 : Nat) (x11 : Nat) (x12 : Nat) (x13 : Nat) (x14 : Nat) (x15 : Nat) (x16 : Nat) (x17 : Nat) (p : Bool) : Res := some (.bool p, st0)
def t27 (x0 : Nat) (x1 : Nat) (x2 : Nat) (x3 : Nat) (x4 : Nat) (x5 : Nat) (x6 : Nat) (x7 : Nat) (x8 : Nat) (x9 : Nat) (x10 : Nat) (x11 : Nat) (x12 : Nat) (x13 : Nat) (x14 : Nat) (x15 : Nat) (x16 : Nat) (x17 : Nat) : Res :=
 (cond (!(r71 x0 1092616192))
 (some (.bool false, st0))
 (cond (!(r71 x12 1092616192))
  (some (.bool false, st0))
  (cond (!(r72 x6 3262119936 1153138688))
   (some (.bool false, st0))
   (cond (!(r71 x1 1092616192))
    (some (.bool false, st0))
    (cond (!(r71 x13 1092616192))
     (some (.bool false, st0))
     (cond (!(r72 x7 3262119936 1153138688))
      (some (.bool false, st0))
      (cond (!(r71 x2 1092616192))
       (some (.bool false, st0))
       (cond (!(r71 x14 1092616192))
        (some (.bool false, st0))
        (cond (!(r72 x8 3262119936 1153138688))
         (some (.bool false, st0))
         (cond (!(r71 x3 1092616192))
          (some (.bool false, st0))
          (cond (!(r71 x15 1092616192))
           (some (.bool false, st0))
           (cond (!(r72 x9 3262119936 1153138688))
            (some (.bool false, st0))
            (cond (!(r71 x4 1092616192))
             (some (.bool false, st0))
             (cond (!(r71 x16 1092616192))
              (some (.bool false, st0))
              (cond (!(r72 x10 3262119936 1153138688))
               (some (.bool false, st0))
               (cond (!(r71 x5 1092616192))
                (some (.bool false, st0))
                (cond (!(r71 x17 1092616192))
                 (some (.bool false, st0))
                 (cond (!(r72 x11 3262119936 1153138688))
                  (some (.bool false, st0))
                  (some (.bool true, st0))))))))))))))))))))
set_option maxRecDepth 100000 in
theorem e27 (x0 : Nat) (x1 : Nat) (x2 : Nat) (x3 : Nat) (x4 : Nat) (x5 : Nat) (x6 : Nat) (x7 : Nat) (x8 : Nat) (x9 : Nat) (x10 : Nat) (x11 : Nat) (x12 : Nat) (x13 : Nat) (x14 : Nat) (x15 : Nat) (x16 : Nat) (x17 : Nat) : evFn Try.prog ext T14 200 Try.f27 [.agg #[.float .f32 x0, .float .f32 x1, .float .f32 x2, .float .f32 x3, .float .f32 x4, .float .f32 x5, .float .f32 x6, .float .f32 x7, .float .f32 x8, .float .f32 x9, .float .f32 x10, .float .f32 x11, .float .f32 x12, .float .f32 x13, .float .f32 x14, .float .f32 x15, .float .f32 x16, .float .f32 x17]] st0 = some (.bool (r27 x0 x1 x2 x3 x4 x5 x6 x7 x8 x9 x10 x11 x12 x13 x14 x15 x16 x17), st0) :=
 (show evFn Try.prog ext T14 200 Try.f27 [.agg #[.float .f32 x0, .float .f32 x1, .float .f32 x2, .float .f32 x3, .float .f32 x4, .float .f32 x5, .float .f32 x6, .float .f32 x7, .float .f32 x8, .float .f32 x9, .float .f32 x10, .float .f32 x11, .float .f32 x12, .float .f32 x13, .float .f32 x14, .float .f32 x15, .float .f32 x16, .float .f32 x17]] st0 = t27 x0 x1 x2 x3 x4 x5 x6 x7 x8 x9 x10 x11 x12 x13 x14 x15 x16 x17 from by kernel_rfl).trans
 ((show t27 x0 x1 x2 x3 x4 x5 x6 x7 x8 x9 x10 x11 x12 x13 x14 x15 x16 x17 = a27 x0 x1 x2 x3 x4 x5 x6 x7 x8 x9 x10 x11 x12 x13 x14 x15 x16 x17 (r27 x0 x1 x2 x3 x4 x5 x6 x7 x8 x9 x10 x11 x12 x13 x14 x15 x16 x17) from (cond_app (a27 x0 x1 x2 x3 x4 x5 x6 x7 x8 x9 x10 x11 x12 x13 x14 x15 x16 x17) _ rfl (cond_app (a27 x0 x1 x2 x3 x4 x5 x6 x7 x8 x9 x10 x11 x12 x13 x14 x15 x16 x17) _ rfl (cond_app (a27 x0 x1 x2 x3 x4 x5 x6 x7 x8 x9 x10 x11 x12 x13 x14 x15 x16 x17) _ rfl (cond_app (a27 x0 x1 x2 x3 x4 x5 x6 x7 x8 x9 x10 x11 x12 x13 x14 x15 x16 x17) _ rfl (cond_app (a27 x0 x1 x2 x3 x4 x5 x6 x7 x8 x9 x10 x11 x12 x13 x14 x15 x16 x17) _ rfl (cond_app (a27 x0 x1 x2 x3 x4 x5 x6 x7 x8 x9 x10 x11 x12 x13 x14 x15 x16 x17) _ rfl (cond_app (a27 x0 x1 x2 x3 x4 x5 x6 x7 x8 x9 x10 x11 x12 x13 x14 x15 x16 x17) _ rfl (cond_app (a27 x0 x1 x2 x3 x4 x5 x6 x7 x8 x9 x10 x11 x12 x13 x14 x15 x16 x17) _ rfl (cond_app (a27 x0 x1 x2 x3 x4 x5 x6 x7 x8 x9 x10 x11 x12 x13 x14 x15 x16 x17) _ rfl (cond_app (a27 x0 x1 x2 x3 x4 x5 x6 x7 x8 x9 x10 x11 x12 x13 x14 x15 x16 x17) _ rfl (cond_app (a27 x0 x1 x2 x3 x4 x5 x6 x7 x8 x9 x10 x11 x12 x13 x14 x15 x16 x17) _ rfl (cond_app (a27 x0 x1 x2 x3 x4 x5 x6 x7 x8 x9 x10 x11 x12 x13 x14 x15 x16 x17) _ rfl (cond_app (a27 x0 x1 x2 x3 x4 x5 x6 x7 x8 x9 x10 x11 x12 x13 x14 x15 x16 x17) _ rfl (cond_app (a27 x0 x1 x2 x3 x4 x5 x6 x7 x8 x9 x10 x11 x12 x13 x14 x15 x16 x17) _ rfl (cond_app (a27 x0 x1 x2 x3 x4 x5 x6 x7 x8 x9 x10 x11 x12 x13 x14 x15 x16 x17) _ rfl (cond_app (a27 x0 x1 x2 x3 x4 x5 x6 x7 x8 x9 x10 x11 x12 x13 x14 x15 x16 x17) _ rfl (cond_app (a27 x0 x1 x2 x3 x4 x5 x6 x7 x8 x9 x10 x11 x12 x13 x14 x15 x16 x17) _ rfl (cond_app (a27 x0 x1 x2 x3 x4 x5 x6 x7 x8 x9 x10 x11 x12 x13 x14 x15 x16 x17) _ rfl rfl))))))))))))))))))))
def T15 : CallF := addF T14 27 s27
set_option maxRecDepth 100000 in
theorem ok15 : CfOk Try.prog T15 := by
  refine cfOk_add ok14 fun args s r s' h1 h2 h3 => ?_
  unfold s27 at h3; split at h3
  · rename_i h; exact callOk ok14 Try.func27 h1 h2 h (e27 _ _ _ _ _ _ _ _ _ _ _ _ _ _ _ _ _ _) rfl h3
  · exact ok14 _ _ _ _ _ h1 h2 h3

/-- impl.sum -/
def r60 (x0 : Nat) (x1 : Nat) (x2 : Nat) (x3 : Nat) (x4 : Nat) (x5 : Nat) (x6 : Nat) (x7 : Nat) (x8 : Nat) (x9 : Nat) (x10 : Nat) (x11 : Nat) (x12 : Nat) (x13 : Nat) (x14 : Nat) (x15 : Nat) (x16 : Nat) (x17 : Nat) : Nat :=
 ((fadd .f32 (fadd .f32 (fadd .f32 (fadd .f32 (fadd .f32 x12 x13) x14) x15) x16) x17))
def s60 (args : List Value) (s : St) : Res :=
 match args, s.h with
 | [.iface q1 (.slice (some ⟨b0, o0, some s0⟩) l0 c0)], [⟨true, some (.cells [.float .f32 x0, .float .f32 x1, .float .f32 x2, .float .f32 x3, .float .f32 x4, .float .f32 x5, .float .f32 x6, .float .f32 x7, .float .f32 x8, .float .f32 x9, .float .f32 x10, .float .f32 x11, .float .f32 x12, .float .f32 x13, .float .f32 x14, .float .f32 x15, .float .f32 x16, .float .f32 x17])⟩] => if b0 = 0 ∧ o0 = 0 ∧ s0 = 12 ∧ l0 = 6 ∧ c0 = 6 ∧ q1 = 0 then some (.float .f32 (r60 x0 x1 x2 x3 x4 x5 x6 x7 x8 x9 x10 x11 x12 x13 x14 x15 x16 x17), ⟨[⟨true, (some (.cells [.float .f32 x0, .float .f32 x1, .float .f32 x2, .float .f32 x3, .float .f32 x4, .float .f32 x5, .float .f32 x6, .float .f32 x7, .float .f32 x8, .float .f32 x9, .float .f32 x10, .float .f32 x11, .float .f32 x12, .float .f32 x13, .float .f32 x14, .float .f32 x15, .float .f32 x16, .float .f32 x17]))⟩], 1, false⟩) else T15 60 args s
 | _, _ => T15 60 args s
def a60 (x0 : Nat) (x1 : Nat) (x2 : Nat) (x3 : Nat) (x4 : Nat) (x5 : Nat) (x6 : Nat) (x7 : Nat) (x8 : Nat) (x9 : Nat) (x10 : Nat) (x11 : Nat) (x12 : Nat) (x13 : Nat) (x14 : Nat) (x15 : Nat) (x16 : Nat) (x17 : Nat) (p : Nat) : Res := some (.float .f32 p, ⟨[⟨true, (some (.cells [.float .f32 x0, .float .f32 x1, .float .f32 x2, .float .f32 x3, .float .f32 x4, .float .f32 x5, .float .f32 x6, .float .f32 x7, .float .f32 x8, .float .f32 x9, .float .f32 x10, .float .f32 x11, .float .f32 x12, .float .f32 x13, .float .f32 x14, .float .f32 x15, .float .f32 x16, .float .f32 x17]))⟩], 1, false⟩)
def t60 (x0 : Nat) (x1 : Nat) (x2 : Nat) (x3 : Nat) (x4 : Nat) (x5 : Nat) (x6 : Nat) (x7 : Nat) (x8 : Nat) (x9 : Nat) (x10 : Nat) (x11 : Nat) (x12 : Nat) (x13 : Nat) (x14 : Nat) (x15 : Nat) (x16 : Nat) (x17 : Nat) : Res :=
 (some (.float .f32 (fadd .f32 (fadd .f32 (fadd .f32 (fadd .f32 (fadd .f32 x12 x13) x14) x15) x16) x17), ⟨[⟨true, (some (.cells [.float .f32 x0, .float .f32 x1, .float .f32 x2, .float .f32 x3, .float .f32 x4, .float .f32 x5, .float .f32 x6, .float .f32 x7, .float .f32 x8, .float .f32 x9, .float .f32 x10, .float .f32 x11, .float .f32 x12, .float .f32 x13, .float .f32 x14, .float .f32 x15, .float .f32 x16, .float .f32 x17]))⟩], 1, false⟩))
set_option maxRecDepth 100000 in
theorem e60 (x0 : Nat) (x1 : Nat) (x2 : Nat) (x3 : Nat) (x4 : Nat) (x5 : Nat) (x6 : Nat) (x7 : Nat) (x8 : Nat) (x9 : Nat) (x10 : Nat) (x11 : Nat) (x12 : Nat) (x13 : Nat) (x14 : Nat) (x15 : Nat) (x16 : Nat) (x17 : Nat) : evFn Try.prog ext T15 200 Try.f60 [xsl ⟨0, 0, some 12⟩ 6 6] ⟨[⟨true, (some (.cells [.float .f32 x0, .float .f32 x1, .float .f32 x2, .float .f32 x3, .float .f32 x4, .float .f32 x5, .float .f32 x6, .float .f32 x7, .float .f32 x8, .float .f32 x9, .float .f32 x10, .float .f32 x11, .float .f32 x12, .float .f32 x13, .float .f32 x14, .float .f32 x15, .float .f32 x16, .float .f32 x17]))⟩], 1, false⟩ = some (.float .f32 (r60 x0 x1 x2 x3 x4 x5 x6 x7 x8 x9 x10 x11 x12 x13 x14 x15 x16 x17), ⟨[⟨true, (some (.cells [.float .f32 x0, .float .f32 x1, .float .f32 x2, .float .f32 x3, .float .f32 x4, .float .f32 x5, .float .f32 x6, .float .f32 x7, .float .f32 x8, .float .f32 x9, .float .f32 x10, .float .f32 x11, .float .f32 x12, .float .f32 x13, .float .f32 x14, .float .f32 x15, .float .f32 x16, .float .f32 x17]))⟩], 1, false⟩) :=
 (show evFn Try.prog ext T15 200 Try.f60 [xsl ⟨0, 0, some 12⟩ 6 6] ⟨[⟨true, (some (.cells [.float .f32 x0, .float .f32 x1, .float .f32 x2, .float .f32 x3, .float .f32 x4, .float .f32 x5, .float .f32 x6, .float .f32 x7, .float .f32 x8, .float .f32 x9, .float .f32 x10, .float .f32 x11, .float .f32 x12, .float .f32 x13, .float .f32 x14, .float .f32 x15, .float .f32 x16, .float .f32 x17]))⟩], 1, false⟩ = t60 x0 x1 x2 x3 x4 x5 x6 x7 x8 x9 x10 x11 x12 x13 x14 x15 x16 x17 from by kernel_rfl).trans
 ((show t60 x0 x1 x2 x3 x4 x5 x6 x7 x8 x9 x10 x11 x12 x13 x14 x15 x16 x17 = a60 x0 x1 x2 x3 x4 x5 x6 x7 x8 x9 x10 x11 x12 x13 x14 x15 x16 x17 (r60 x0 x1 x2 x3 x4 x5 x6 x7 x8 x9 x10 x11 x12 x13 x14 x15 x16 x17) from rfl))
def T16 : CallF := addF T15 60 s60
set_option maxRecDepth 100000 in
theorem ok16 : CfOk Try.prog T16 := by
  refine cfOk_add ok15 fun args s r s' h1 h2 h3 => ?_
  unfold s60 at h3; split at h3
  · rename_i h; split at h3
    · rename_i hc; obtain ⟨rfl, rfl, rfl, rfl, rfl, rfl⟩ := hc; exact callOk ok15 Try.func60 h1 h2 h (e60 _ _ _ _ _ _ _ _ _ _ _ _ _ _ _ _ _ _) rfl h3
    · exact ok15 _ _ _ _ _ h1 h2 h3
  · exact ok15 _ _ _ _ _ h1 h2 h3

/-- impl.FuelOf -/
def r13 (x0 : Nat) (x1 : Nat) (x2 : Nat) (x3 : Nat) (x4 : Nat) (x5 : Nat) (x6 : Nat) (x7 : Nat) (x8 : Nat) (x9 : Nat) (x10 : Nat) (x11 : Nat) (x12 : Nat) (x13 : Nat) (x14 : Nat) (x15 : Nat) (x16 : Nat) (x17 : Nat) : Nat × Int :=
 cond (!(r27 x0 x1 x2 x3 x4 x5 x6 x7 x8 x9 x10 x11 x12 x13 x14 x15 x16 x17))
  (0, 1)
  ((r60 x0 x1 x2 x3 x4 x5 x6 x7 x8 x9 x10 x11 x12 x13 x14 x15 x16 x17), 0)
def s13 (args : List Value) (s : St) : Res :=
 match args, s.h with
 | [.agg ⟨[.float .f32 x0, .float .f32 x1, .float .f32 x2, .float .f32 x3, .float .f32 x4, .float .f32 x5, .float .f32 x6, .float .f32 x7, .float .f32 x8, .float .f32 x9, .float .f32 x10, .float .f32 x11, .float .f32 x12, .float .f32 x13, .float .f32 x14, .float .f32 x15, .float .f32 x16, .float .f32 x17]⟩], [] => some (.tuple #[.float .f32 ((r13 x0 x1 x2 x3 x4 x5 x6 x7 x8 x9 x10 x11 x12 x13 x14 x15 x16 x17).1), .int .i64 ((r13 x0 x1 x2 x3 x4 x5 x6 x7 x8 x9 x10 x11 x12 x13 x14 x15 x16 x17).2)], st0)
 | _, _ => T16 13 args s
def a13 (x0 : Nat) (x1 : Nat) (x2 : Nat) (x3 : Nat) (x4 : Nat) (x5 : Nat) (x6 : Nat) (x7 : Nat) (x8 : Nat) (x9 : Nat) (x10 : Nat) (x11 : Nat) (x12 : Nat) (x13 : Nat) (x14 : Nat) (x15 : Nat) (x16 : Nat) (x17 : Nat) (p : Nat × Int) : Res := some (.tuple #[.float .f32 (p.1), .int .i64 (p.2)], st0)
def t13 (x0 : Nat) (x1 : Nat) (x2 : Nat) (x3 : Nat) (x4 : Nat) (x5 : Nat) (x6 : Nat) (x7 : Nat) (x8 : Nat) (x9 : Nat) (x10 : Nat) (x11 : Nat) (x12 : Nat) (x13 : Nat) (x14 : Nat) (x15 : Nat) (x16 : Nat) (x17 : Nat) : Res :=
 (cond (!(r27 x0 x1 x2 x3 x4 x5 x6 x7 x8 x9 x10 x11 x12 x13 x14 x15 x16 x17))
 (some (.tuple #[.float .f32 0, .int .i64 1], st0))
 (some (.tuple #[.float .f32 (r60 x0 x1 x2 x3 x4 x5 x6 x7 x8 x9 x10 x11 x12 x13 x14 x15 x16 x17), .int .i64 0], st0)))
set_option maxRecDepth 100000 in
theorem e13 (x0 : Nat) (x1 : Nat) (x2 : Nat) (x3 : Nat) (x4 : Nat) (x5 : Nat) (x6 : Nat) (x7 : Nat) (x8 : Nat) (x9 : Nat) (x10 : Nat) (x11 : Nat) (x12 : Nat) (x13 : Nat) (x14 : Nat) (x15 : Nat) (x16 : Nat) (x17 : Nat) : evFn Try.prog ext T16 200 Try.f13 [.agg #[.float .f32 x0, .float .f32 x1, .float .f32 x2, .float .f32 x3, .float .f32 x4, .float .f32 x5, .float .f32 x6, .float .f32 x7, .float .f32 x8, .float .f32 x9, .float .f32 x10, .float .f32 x11, .float .f32 x12, .float .f32 x13, .float .f32 x14, .float .f32 x15, .float .f32 x16, .float .f32 x17]] st0 = some (.tuple #[.float .f32 ((r13 x0 x1 x2 x3 x4 x5 x6 x7 x8 x9 x10 x11 x12 x13 x14 x15 x16 x17).1), .int .i64 ((r13 x0 x1 x2 x3 x4 x5 x6 x7 x8 x9 x10 x11 x12 x13 x14 x15 x16 x17).2)], st0) :=
 (show evFn Try.prog ext T16 200 Try.f13 [.agg #[.float .f32 x0, .float .f32 x1, .float .f32 x2, .float .f32 x3, .float .f32 x4, .float .f32 x5, .float .f32 x6, .float .f32 x7, .float .f32 x8, .float .f32 x9, .float .f32 x10, .float .f32 x11, .float .f32 x12, .float .f32 x13, .float .f32 x14, .float .f32 x15, .float .f32 x16, .float .f32 x17]] st0 = t13 x0 x1 x2 x3 x4 x5 x6 x7 x8 x9 x10 x11 x12 x13 x14 x15 x16 x17 from by kernel_rfl).trans
 ((show t13 x0 x1 x2 x3 x4 x5 x6 x7 x8 x9 x10 x11 x12 x13 x14 x15 x16 x17 = a13 x0 x1 x2 x3 x4 x5 x6 x7 x8 x9 x10 x11 x12 x13 x14 x15 x16 x17 (r13 x0 x1 x2 x3 x4 x5 x6 x7 x8 x9 x10 x11 x12 x13 x14 x15 x16 x17) from (cond_app (a13 x0 x1 x2 x3 x4 x5 x6 x7 x8 x9 x10 x11 x12 x13 x14 x15 x16 x17) _ rfl rfl)))
def T17 : CallF := addF T16 13 s13
set_option maxRecDepth 100000 in
theorem ok17 : CfOk Try.prog T17 := by
  refine cfOk_add ok16 fun args s r s' h1 h2 h3 => ?_
  unfold s13 at h3; split at h3
  · rename_i h; exact callOk ok16 Try.func13 h1 h2 h (e13 _ _ _ _ _ _ _ _ _ _ _ _ _ _ _ _ _ _) rfl h3
  · exact ok16 _ _ _ _ _ h1 h2 h3

/-- laws.sameFloat -/
def r14 (x0 : Nat) (x1 : Nat) : Bool :=
 cond (!feq .f64 x0 x0)
  (cond (!feq .f64 x0 x0)
   ((!feq .f64 x1 x1))
   (false))
  (cond (!feq .f64 x1 x1)
   (cond (!feq .f64 x0 x0)
    ((!feq .f64 x1 x1))
    (false))
   (cond (feq .f64 x0 0)
    (cond (feq .f64 x1 0)
     (((fgt .f64 (fdiv .f64 4607182418800017408 x0) 0) == (fgt .f64 (fdiv .f64 4607182418800017408 x1) 0)))
     ((feq .f64 x0 x1)))
    ((feq .f64 x0 x1))))
def s14 (args : List Value) (s : St) : Res :=
 match args, s.h with
 | [.float .f64 x0, .float .f64 x1], [] => some (.bool (r14 x0 x1), st0)
 | _, _ => T17 14 args s
def a14 (x0 : Nat) (x1 : Nat) (p : Bool) : Res := some (.bool p, st0)
def t14 (x0 : Nat) (x1 : Nat) : Res :=
 (cond (!feq .f64 x0 x0)
 (cond (!feq .f64 x0 x0)
  (some (.bool (!feq .f64 x1 x1), st0))
  (some (.bool false, st0)))
 (cond (!feq .f64 x1 x1)
  (cond (!feq .f64 x0 x0)
   (some (.bool (!feq .f64 x1 x1), st0))
   (some (.bool false, st0)))
  (cond (feq .f64 x0 0)
   (cond (feq .f64 x1 0)
    (some (.bool ((fgt .f64 (fdiv .f64 4607182418800017408 x0) 0) == (fgt .f64 (fdiv .f64 4607182418800017408 x1) 0)), st0))
    (some (.bool (feq .f64 x0 x1), st0)))
   (some (.bool (feq .f64 x0 x1), st0)))))
set_option maxRecDepth 100000 in
theorem e14 (x0 : Nat) (x1 : Nat) : evFn Try.prog ext T17 200 Try.f14 [.float .f64 x0, .float .f64 x1] st0 = some (.bool (r14 x0 x1), st0) :=
 (show evFn Try.prog ext T17 200 Try.f14 [.float .f64 x0, .float .f64 x1] st0 = t14 x0 x1 from by kernel_rfl).trans
 ((show t14 x0 x1 = a14 x0 x1 (r14 x0 x1) from (cond_app (a14 x0 x1) _ (cond_app (a14 x0 x1) _ rfl rfl) (cond_app (a14 x0 x1) _ (cond_app (a14 x0 x1) _ rfl rfl) (cond_app (a14 x0 x1) _ (cond_app (a14 x0 x1) _ rfl rfl) rfl)))))
def T18 : CallF := addF T17 14 s14
set_option maxRecDepth 100000 in
theorem ok18 : CfOk Try.prog T18 := by
  refine cfOk_add ok17 fun args s r s' h1 h2 h3 => ?_
  unfold s14 at h3; split at h3
  · rename_i h; exact callOk ok17 Try.func14 h1 h2 h (e14 _ _) rfl h3
  · exact ok17 _ _ _ _ _ h1 h2 h3

/-- laws.FnExactFuelOf -/
def r3 (x0 : Nat) (x1 : Nat) (x2 : Nat) (x3 : Nat) (x4 : Nat) (x5 : Nat) (x6 : Nat) (x7 : Nat) (x8 : Nat) (x9 : Nat) (x10 : Nat) (x11 : Nat) (x12 : Nat) (x13 : Nat) (x14 : Nat) (x15 : Nat) (x16 : Nat) (x17 : Nat) : Bool :=
 cond (!(r14 (widen ((r13 x0 x1 x2 x3 x4 x5 x6 x7 x8 x9 x10 x11 x12 x13 x14 x15 x16 x17).1)) (widen ((r11 x0 x1 x2 x3 x4 x5 x6 x7 x8 x9 x10 x11 x12 x13 x14 x15 x16 x17).1))))
  (false)
  (cond ((((r13 x0 x1 x2 x3 x4 x5 x6 x7 x8 x9 x10 x11 x12 x13 x14 x15 x16 x17).2) : Int) != ((r11 x0 x1 x2 x3 x4 x5 x6 x7 x8 x9 x10 x11 x12 x13 x14 x15 x16 x17).2))
   (false)
   (true))
def s3 (args : List Value) (s : St) : Res :=
 match args, s.h with
 | [.agg ⟨[.float .f32 x0, .float .f32 x1, .float .f32 x2, .float .f32 x3, .float .f32 x4, .float .f32 x5, .float .f32 x6, .float .f32 x7, .float .f32 x8, .float .f32 x9, .float .f32 x10, .float .f32 x11, .float .f32 x12, .float .f32 x13, .float .f32 x14, .float .f32 x15, .float .f32 x16, .float .f32 x17]⟩], [] => some (.bool (r3 x0 x1 x2 x3 x4 x5 x6 x7 x8 x9 x10 x11 x12 x13 x14 x15 x16 x17), st0)
 | _, _ => T18 3 args s
def a3 (x0 : Nat) (x1 : Nat) (x2 : Nat) (x3 : Nat) (x4 : Nat) (x5 : Nat) (x6 : Nat) (x7 : Nat) (x8 : Nat) (x9 : Nat) (x10 : Nat) (x11 : Nat) (x12 : Nat) (x13 : Nat) (x14 : Nat) (x15 : Nat) (x16 : Nat) (x17 : Nat) (p : Bool) : Res := some (.bool p, st0)
def t3 (x0 : Nat) (x1 : Nat) (x2 : Nat) (x3 : Nat) (x4 : Nat) (x5 : Nat) (x6 : Nat) (x7 : Nat) (x8 : Nat) (x9 : Nat) (x10 : Nat) (x11 : Nat) (x12 : Nat) (x13 : Nat) (x14 : Nat) (x15 : Nat) (x16 : Nat) (x17 : Nat) : Res :=
 (cond (!(r14 (widen ((r13 x0 x1 x2 x3 x4 x5 x6 x7 x8 x9 x10 x11 x12 x13 x14 x15 x16 x17).1)) (widen ((r11 x0 x1 x2 x3 x4 x5 x6 x7 x8 x9 x10 x11 x12 x13 x14 x15 x16 x17).1))))
 (some (.bool false, st0))
 (cond ((((r13 x0 x1 x2 x3 x4 x5 x6 x7 x8 x9 x10 x11 x12 x13 x14 x15 x16 x17).2) : Int) != ((r11 x0 x1 x2 x3 x4 x5 x6 x7 x8 x9 x10 x11 x12 x13 x14 x15 x16 x17).2))
  (some (.bool false, st0))
  (some (.bool true, st0))))
set_option maxRecDepth 100000 in
theorem e3 (x0 : Nat) (x1 : Nat) (x2 : Nat) (x3 : Nat) (x4 : Nat) (x5 : Nat) (x6 : Nat) (x7 : Nat) (x8 : Nat) (x9 : Nat) (x10 : Nat) (x11 : Nat) (x12 : Nat) (x13 : Nat) (x14 : Nat) (x15 : Nat) (x16 : Nat) (x17 : Nat) : evFn Try.prog ext T18 200 Try.f3 [.agg #[.float .f32 x0, .float .f32 x1, .float .f32 x2, .float .f32 x3, .float .f32 x4, .float .f32 x5, .float .f32 x6, .float .f32 x7, .float .f32 x8, .float .f32 x9, .float .f32 x10, .float .f32 x11, .float .f32 x12, .float .f32 x13, .float .f32 x14, .float .f32 x15, .float .f32 x16, .float .f32 x17]] st0 = some (.bool (r3 x0 x1 x2 x3 x4 x5 x6 x7 x8 x9 x10 x11 x12 x13 x14 x15 x16 x17), st0) :=
 (show evFn Try.prog ext T18 200 Try.f3 [.agg #[.float .f32 x0, .float .f32 x1, .float .f32 x2, .float .f32 x3, .float .f32 x4, .float .f32 x5, .float .f32 x6, .float .f32 x7, .float .f32 x8, .float .f32 x9, .float .f32 x10, .float .f32 x11, .float .f32 x12, .float .f32 x13, .float .f32 x14, .float .f32 x15, .float .f32 x16, .float .f32 x17]] st0 = t3 x0 x1 x2 x3 x4 x5 x6 x7 x8 x9 x10 x11 x12 x13 x14 x15 x16 x17 from by kernel_rfl).trans
 ((show t3 x0 x1 x2 x3 x4 x5 x6 x7 x8 x9 x10 x11 x12 x13 x14 x15 x16 x17 = a3 x0 x1 x2 x3 x4 x5 x6 x7 x8 x9 x10 x11 x12 x13 x14 x15 x16 x17 (r3 x0 x1 x2 x3 x4 x5 x6 x7 x8 x9 x10 x11 x12 x13 x14 x15 x16 x17) from (cond_app (a3 x0 x1 x2 x3 x4 x5 x6 x7 x8 x9 x10 x11 x12 x13 x14 x15 x16 x17) _ rfl (cond_app (a3 x0 x1 x2 x3 x4 x5 x6 x7 x8 x9 x10 x11 x12 x13 x14 x15 x16 x17) _ rfl rfl))))
def T19 : CallF := addF T18 3 s3
set_option maxRecDepth 100000 in
theorem ok19 : CfOk Try.prog T19 := by
  refine cfOk_add ok18 fun args s r s' h1 h2 h3 => ?_
  unfold s3 at h3; split at h3
  · rename_i h; exact callOk ok18 Try.func3 h1 h2 h (e3 _ _ _ _ _ _ _ _ _ _ _ _ _ _ _ _ _ _) rfl h3
  · exact ok18 _ _ _ _ _ h1 h2 h3
end Go.Proofs.Ytpmpeakamcfdcaa
