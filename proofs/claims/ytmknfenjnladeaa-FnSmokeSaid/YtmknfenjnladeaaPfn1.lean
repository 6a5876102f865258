/- Flues in numbers: how dense air is, drafts. -/
import Derived.Test.YtmknfenjnladeaaA43
namespace Go.Ab
open Ieee
set_option maxRecDepth 100000

end Go.Ab

namespace Go.Ab
open Ieee
set_option maxRecDepth 100000

theorem FM_200 : (2 : Int) ^ 200 ≤ FM := by decide +kernel
end Go.Ab

namespace Go.Ab
open Ieee
set_option maxRecDepth 100000

noncomputable def fl (q : Nat) : Nat := cond (flt .f32 q 0) (fneg .f32 (rt (fneg .f32 q))) (rt q)
theorem nn0 : Nn 0 := by unfold Nn; decide
theorem sv0 : sv 0 = 0 := by decide +kernel
theorem flt0 {q : Nat} (h : Fi q) (h2 : q < 4294967296) : flt .f32 q 0 = decide (sv q < 0) := by rw [flt_sv h.nn nn0 h2 (by decide),sv0]
theorem rt_nz : narrow (fsqrt .f64 (widen 2147483648)) = 2147483648 ∧ narrowOk (fsqrt .f64 (widen 2147483648)) = true := by decide +kernel
theorem rt_zero : rt 0 = 0 := by
  have : narrow (fsqrt .f64 (widen 0)) = 0 := by decide +kernel
  exact this
theorem neg_le0 (n : Nat) : -((n : Nat) : Int) ≤ 0 := by omega
theorem nat_abs1 (n : Nat) : ((n : Nat) : Int) = (-((n : Nat) : Int)).natAbs := by omega
theorem nat_abs2 (n : Nat) : (-((n : Nat) : Int)).natAbs = n := by omega
theorem sign_of {q : Nat} (h : Fi q) (h2 : q < 4294967296) : (sv q < 0 ∧ 2147483648 < q ∧ q - 2147483648 < 2139095040 ∧ sv q = -((rval F32 (q - 2147483648) : Nat) : Int)) ∨ (0 ≤ sv q ∧ q < 2139095040 ∧ sv q = ((rval F32 q : Nat) : Int)) ∨ (q = 2147483648 ∧ sv q = 0) := by
  unfold Fi at h
  by_cases h1 : q < 2147483648
  · refine .inr (.inl ?_)
    rw [sv_pos h1]
    exact ⟨Int.natCast_nonneg _,by omega,rfl⟩
  · rw [sv_neg (by omega) h2]
    by_cases h3 : q = 2147483648
    · subst h3
      exact .inr (.inr ⟨rfl,by decide +kernel⟩)
    · refine .inl ⟨?_,by omega,by omega,rfl⟩
      have := rval_lt F32 (show 0 < q - 2147483648 by omega)
      rw [show rval F32 0 = 0 from rval_zero F32] at this
      generalize rval F32 (q - 2147483648) = v at *
      omega
theorem fl_ok {q : Nat} (h : Fi q) (h2 : q < 4294967296) : Fi (fl q) ∧ fl q < 4294967296 ∧ (sv q < 0 → narrowOk (fsqrt .f64 (widen (fneg .f32 q))) = true) ∧ (¬ sv q < 0 → narrowOk (fsqrt .f64 (widen q)) = true) ∧
    (0 ≤ sv q → 0 ≤ sv (fl q)) ∧ (sv q ≤ 0 → sv (fl q) ≤ 0) ∧ ∃ x,x < 2139095040 ∧ ((rval F32 x : Nat) : Int) = (sv q).natAbs ∧ (sv (fl q)).natAbs = rval F32 (rt x) := by
  unfold fl
  rw [flt0 h h2]
  have z0 := rt_zero
  rcases sign_of h h2 with ⟨a,b,c,d⟩ | ⟨a,b,d⟩ | ⟨a,d⟩
  · have e : fneg .f32 q = q - 2147483648 := by
      obtain ⟨b',hb⟩ : ∃ b',q = 2147483648 + b' := ⟨q - 2147483648,by omega⟩
      rw [hb,neg_neg (by omega)]; omega
    have k := rt_ok c
    rw [decide_eq_true a,e]
    obtain ⟨y,hy⟩ : ∃ y,rt (q - 2147483648) = y := ⟨_,rfl⟩
    have k1 := k.1
    have k2 := k.2
    clear k
    rw [hy] at k2
    have hn := neg_pos (a := y) (by omega)
    obtain ⟨y2,hy2⟩ : ∃ y2,fneg .f32 y = y2 := ⟨_,rfl⟩
    have hs : sv y2 = -((rval F32 y : Nat) : Int) := by rw [← hy2,hn,sv_neg (by omega) (by omega),Nat.add_sub_cancel_left]
    have hy3 : y2 = 2147483648 + y := by rw [← hy2,hn]
    clear hn
    rw [cond_true,hy,hy2]
    refine ⟨by unfold Fi; omega,by omega,fun _ => k1,fun g => absurd a g,fun g => by omega,fun _ => ?_,q - 2147483648,c,?_,?_⟩
    · rw [hs]; exact neg_le0 _
    · rw [d]; exact nat_abs1 _
    · rw [hs,hy]; exact nat_abs2 _
  · have k := rt_ok b
    rw [decide_eq_false (by omega)]
    show Fi (rt q) ∧ rt q < 4294967296 ∧ _
    have hs : sv (rt q) = ((rval F32 (rt q) : Nat) : Int) := sv_pos (by omega)
    refine ⟨by unfold Fi; omega,by omega,fun g => by omega,fun _ => k.1,fun _ => ?_,fun g => ?_,q,b,?_,?_⟩
    · show 0 ≤ sv (rt q)
      rw [hs]; exact Int.natCast_nonneg _
    · show sv (rt q) ≤ 0
      have v0 : rval F32 q = 0 := by
        generalize rval F32 q = v at *
        omega
      have q0 : q = 0 := rval_inj F32 (by rw [v0,rval_zero])
      subst q0
      rw [z0,sv0]; exact Int.le_refl _
    · rw [d]; rfl
    · show (sv (rt q)).natAbs = _
      rw [hs]; rfl
  · have e : rt q = q := by rw [a]; exact rt_nz.1
    have e2 : narrowOk (fsqrt .f64 (widen q)) = true := by rw [a]; exact rt_nz.2
    rw [decide_eq_false (by omega)]
    show Fi (rt q) ∧ rt q < 4294967296 ∧ _ ∧ _ ∧ (_ → 0 ≤ sv (rt q)) ∧ (_ → sv (rt q) ≤ 0) ∧ ∃ x,_ ∧ _ ∧ (sv (rt q)).natAbs = _
    rw [e,d]
    clear e
    refine ⟨h,h2,fun g => absurd g (by decide),fun _ => e2,fun _ => Int.le_refl _,fun _ => Int.le_refl _,0,by decide,?_,?_⟩
    · rw [show rval F32 0 = 0 from rval_zero F32]; rfl
    · rw [z0,show rval F32 0 = 0 from rval_zero F32]; rfl
end Go.Ab

namespace Go.Ab
open Ieee
set_option maxRecDepth 100000

noncomputable def ab (a : Nat) : Nat := cond (flt .f32 a 0 || feq .f32 a 0) (fsub .f32 0 a) a
theorem mul_err {a b : Nat} (ha : Fi a) (hb : Fi b) (h1 : sv a * sv b ≤ 2 ^ 200 * 2 ^ 140) (h2 : -(2 ^ 200 * 2 ^ 140) ≤ sv a * sv b) :
    Fi (fmul .f32 a b) ∧ fmul .f32 a b < 4294967296 ∧ (0 ≤ sv a * sv b → 0 ≤ sv (fmul .f32 a b)) ∧ (sv a * sv b ≤ 0 → sv (fmul .f32 a b) ≤ 0) ∧
      (sv (fmul .f32 a b) * 2 ^ 149 - sv a * sv b) * 2 ^ 23 ≤ (sv a * sv b).natAbs + 2 ^ 149 * 2 ^ 23 ∧ (sv a * sv b - sv (fmul .f32 a b) * 2 ^ 149) * 2 ^ 23 ≤ (sv a * sv b).natAbs + 2 ^ 149 * 2 ^ 23 := by
  have fr := mul_fr (a := a) (b := b) ha hb
  generalize sv a * sv b = n at *
  have G : (2 : Int) ^ 200 * 2 ^ 140 ≤ FM * 2 ^ 149 := Int.le_trans (by decide) (Int.mul_le_mul_of_nonneg_right FM_200 (show (0 : Int) ≤ 2 ^ 149 by decide))
  have k1 := Int.le_trans h1 G
  have k2 := Int.le_trans (Int.neg_le_neg G) h2
  have fr := fr k1 k2
  have e := fr.err (Nat.two_pow_pos _) k1 k2
  rw [show ((2 ^ 149 : Nat) : Int) = 2 ^ 149 from rfl] at e
  refine ⟨fr.fi,fr.lt,fun g => fr.nonneg g,fun g => ?_,e.1,e.2⟩
  have := fr.le 0 (by decide) (by rw [show rval F32 0 = 0 from rval_zero F32]; simpa using g)
  rw [show rval F32 0 = 0 from rval_zero F32] at this
  exact this
end Go.Ab

namespace Go.Ab
open Ieee
set_option maxRecDepth 100000

end Go.Ab
