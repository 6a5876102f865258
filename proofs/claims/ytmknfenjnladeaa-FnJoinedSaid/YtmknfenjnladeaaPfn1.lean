/- Flues in numbers: how dense air is, drafts. -/
import Derived.Test.YtmknfenjnladeaaA43
namespace Go.Ab
open Ieee
set_option maxRecDepth 100000

/-- 353 / u, in units -/
def Qd (u : Nat) : Nat := 353 * 2 ^ 149 / u
theorem Qd_gap : ∀ i : Fin 509, Qd (254 + i.val) + 9 * 2 ^ 135 ≤ Qd (253 + i.val) := by decide +kernel
theorem Qd_anti : ∀ (k u : Nat), 253 ≤ u → u + k + 1 ≤ 762 → Qd (u + k + 1) + 9 * 2 ^ 135 ≤ Qd u := by
  intro k
  induction k with
  | zero =>
    intro u h1 h2
    have := Qd_gap ⟨u - 253, by omega⟩
    simp only at this
    rw [show 254 + (u - 253) = u + 0 + 1 by omega, show 253 + (u - 253) = u by omega] at this
    exact this
  | succ k ih =>
    intro u h1 h2
    have := ih (u + 1) (by omega) (by omega)
    rw [show u + 1 + k + 1 = u + (k + 1) + 1 by omega] at this
    have h3 := Qd_gap ⟨u - 253, by omega⟩
    simp only at h3
    rw [show 254 + (u - 253) = u + 1 by omega, show 253 + (u - 253) = u by omega] at h3
    have : 0 < 9 * 2 ^ 135 := by decide
    omega
theorem Qd_lt {u v : Nat} (h0 : 253 ≤ u) (h : u < v) (h2 : v ≤ 762) : Qd v + 9 * 2 ^ 135 ≤ Qd u := by
  have := Qd_anti (v - u - 1) u h0 (by omega)
  rw [show u + (v - u - 1) + 1 = v by omega] at this
  exact this
theorem Qd_hi {u : Nat} (h0 : 253 ≤ u) (h2 : u ≤ 762) : Qd u ≤ 7 * 2 ^ 147 ∧ 2 ^ 147 ≤ Qd u := by
  have a : Qd 253 ≤ 7 * 2 ^ 147 := by decide +kernel
  have b : 2 ^ 147 ≤ Qd 762 := by decide +kernel
  have h3 : Qd u ≤ Qd 253 := by
    by_cases h : u = 253
    · rw [h]; exact Nat.le_refl _
    · exact Nat.le_trans (Nat.le_add_right _ _) (Qd_lt (Nat.le_refl _) (show 253 < u by omega) h2)
  have h4 : Qd 762 ≤ Qd u := by
    by_cases h : u = 762
    · rw [h]; exact Nat.le_refl _
    · exact Nat.le_trans (Nat.le_add_right _ _) (Qd_lt h0 (show u < 762 by omega) (Nat.le_refl _))
  exact ⟨Nat.le_trans h3 a, Nat.le_trans b h4⟩
/-- how dense air is, at so many degrees above -273 -/
theorem dense_ok {w : Nat} {u : Nat} (hw : X ((u : Int) * 16384) w) (h0 : 253 ≤ u) (h2 : u ≤ 762) :
    Fi (fdiv .f32 1135640576 w) ∧ fdiv .f32 1135640576 w < 4294967296 ∧ sv (fdiv .f32 1135640576 w) ≤ Qd u + 2 ^ 127 ∧ (Qd u : Int) ≤ sv (fdiv .f32 1135640576 w) + 2 ^ 127 := by
  have es : sv w = (u : Int) * 2 ^ 149 := by rw [hw.sv, Int.mul_assoc]; rfl
  have e353 : sv 1135640576 = 353 * 2 ^ 149 := by decide +kernel
  have hf : Fi 1135640576 := by unfold Fi; decide
  have ht : (sv w).toNat = u * 2 ^ 149 := by rw [es]; exact Int.toNat_natCast (u * 2 ^ 149)
  have hu : (0 : Int) < u := by clear es e353 ht hw; omega
  have hp : (0 : Int) < (u : Int) * 2 ^ 149 := Int.mul_pos hu (by decide)
  have hF : (2 : Int) ^ 200 ≤ FM := by decide +kernel
  have h1 : (1 : Int) ≤ u := hu
  have big : (353 * 2 ^ 149 * 2 ^ 149 : Int) ≤ FM * ((u : Int) * 2 ^ 149) :=
    Int.le_trans (show (353 * 2 ^ 149 * 2 ^ 149 : Int) ≤ 2 ^ 200 * (1 * 2 ^ 149) by decide) (Int.mul_le_mul hF (Int.mul_le_mul_of_nonneg_right h1 (by decide)) (by decide) (Int.le_trans (by decide) hF))
  have fr := div_fr (a := 1135640576) hf hw.fi (by rw [es]; exact hp) (by rw [e353, es]; exact big) (by
    rw [e353, es]
    exact Int.le_trans (Int.neg_nonpos_of_nonneg (Int.mul_nonneg (Int.le_trans (by decide) hF) (Int.le_of_lt hp))) (by decide))
  rw [ht, e353] at fr
  refine ⟨fr.fi, fr.lt, ?_⟩
  have up := fr.up (by decide)
  have dn := fr.dn (by decide) (by rw [Int.natCast_mul]; exact big)
  have hn := fr.nonneg (by decide)
  have q1 : Qd u * u ≤ 353 * 2 ^ 149 := Nat.div_mul_le_self _ _
  have q2 : 353 * 2 ^ 149 < (Qd u + 1) * u := by
    have := Nat.lt_mul_div_succ (353 * 2 ^ 149) (show 0 < u by omega)
    rw [Nat.mul_comm u] at this
    exact this
  have hq := (Qd_hi h0 h2).1
  generalize Qd u = q at *
  generalize sv (fdiv .f32 1135640576 w) = s at *
  -- s * u against 353 * 2 ^ 149
  have up2 : s * u * 2 ^ 23 ≤ 353 * 2 ^ 149 * (2 ^ 23 + 1) + u * 2 ^ 23 := by
    have e : s * ((u * 2 ^ 149 : Nat) : Int) * 2 ^ 23 = (s * u * 2 ^ 23) * 2 ^ 149 := by rw [Int.natCast_mul]; grind
    rw [e] at up
    omega
  have dn2 : 353 * 2 ^ 149 * 2 ^ 23 ≤ s * u * (2 ^ 23 + 1) + u * 2 ^ 23 := by
    have e : s * ((u * 2 ^ 149 : Nat) : Int) * (2 ^ 23 + 1) = (s * u * (2 ^ 23 + 1)) * 2 ^ 149 := by rw [Int.natCast_mul]; grind
    rw [e] at dn
    omega
  constructor
  · refine Int.not_lt.1 fun g => ?_
    have g2 : ((q : Int) + 2 ^ 127 + 1) * u ≤ s * u := Int.mul_le_mul_of_nonneg_right (by omega) (by omega)
    have g3 : (353 * 2 ^ 149 : Int) < ((q : Int) + 1) * u := by
      have := (Int.ofNat_lt).2 q2
      rw [Int.natCast_mul] at this
      exact this
    rw [show ((q : Int) + 2 ^ 127 + 1) * u = (q + 1) * u + 2 ^ 127 * u by grind] at g2
    generalize s * (u : Int) = su at *
    generalize ((q : Int) + 1) * u = qu at *
    omega
  · refine Int.not_lt.1 fun g => ?_
    have g2 : (s + 2 ^ 127 + 1) * u ≤ (q : Int) * u := Int.mul_le_mul_of_nonneg_right (by omega) (by omega)
    have g3 : (q : Int) * u ≤ 353 * 2 ^ 149 := by
      have := (Int.ofNat_le).2 q1
      rw [Int.natCast_mul] at this
      exact this
    rw [show (s + 2 ^ 127 + 1) * (u : Int) = s * u + (2 ^ 127 + 1) * u by grind] at g2
    generalize s * (u : Int) = su at *
    generalize (q : Int) * u = qu at *
    omega
end Go.Ab

namespace Go.Ab
open Ieee
set_option maxRecDepth 100000

theorem FM_200 : (2 : Int) ^ 200 ≤ FM := by decide +kernel
/-- a difference -/
theorem diff_err {a b : Nat} {p q : Int} (ha : Fi a) (hb : Fi b) (a1 : sv a ≤ p + 2 ^ 127) (a2 : p ≤ sv a + 2 ^ 127) (b1 : sv b ≤ q + 2 ^ 127) (b2 : q ≤ sv b + 2 ^ 127)
    (p1 : 2 ^ 147 ≤ p) (p2 : p ≤ 7 * 2 ^ 147) (q1 : 2 ^ 147 ≤ q) (q2 : q ≤ 7 * 2 ^ 147) :
    Fi (fsub .f32 a b) ∧ sv (fsub .f32 a b) ≤ p - q + 2 ^ 129 ∧ p - q ≤ sv (fsub .f32 a b) + 2 ^ 129 := by
  have fr := sub_fr (a := a) (b := b) ha hb
  have F := FM_200
  generalize sv a = x at *
  generalize sv b = y at *
  have fr := fr (by omega) (by omega)
  have e := fr.err Nat.one_pos (by omega) (by omega)
  refine ⟨fr.fi, ?_⟩
  generalize sv (fsub .f32 a b) = s at *
  clear fr
  omega
/-- a draft -/
theorem draft_err {c d : Nat} {C e : Int} (hc : Fi c) (hd : Fi d) (c0 : sv c = C * 2 ^ 135) (c1 : 39936 ≤ C) (c2 : C ≤ 1277952) (d1 : sv d ≤ e + 2 ^ 129) (d2 : e ≤ sv d + 2 ^ 129) (e1 : e ≤ 6 * 2 ^ 147) (e2 : -(6 * 2 ^ 147) ≤ e) :
    Fi (fmul .f32 c d) ∧ fmul .f32 c d < 4294967296 ∧ sv (fmul .f32 c d) * 2 ^ 14 ≤ C * e + 2 ^ 151 ∧ C * e ≤ sv (fmul .f32 c d) * 2 ^ 14 + 2 ^ 151 := by
  have fr := mul_fr (a := c) (b := d) hc hd
  rw [c0] at fr
  have F := FM_200
  generalize sv d = y at *
  have u1 : C * y ≤ C * (e + 2 ^ 129) := Int.mul_le_mul_of_nonneg_left d1 (by omega)
  have u2 : C * e ≤ C * (y + 2 ^ 129) := Int.mul_le_mul_of_nonneg_left d2 (by omega)
  have u3 : C * e ≤ C * (6 * 2 ^ 147) := Int.mul_le_mul_of_nonneg_left e1 (by omega)
  have u4 : C * (-(6 * 2 ^ 147)) ≤ C * e := Int.mul_le_mul_of_nonneg_left e2 (by omega)
  rw [Int.mul_add] at u1 u2
  rw [show C * 2 ^ 135 * y = C * y * 2 ^ 135 by grind] at fr
  generalize C * y = Cy at *
  generalize C * e = Ce at *
  have hb : Cy * 2 ^ 135 ≤ 2 ^ 200 * 2 ^ 149 ∧ -(2 ^ 200 * 2 ^ 149) ≤ Cy * 2 ^ 135 := by omega
  have G : (2 : Int) ^ 200 * 2 ^ 149 ≤ FM * 2 ^ 149 := Int.mul_le_mul_of_nonneg_right F (by decide)
  have fr := fr (Int.le_trans hb.1 G) (Int.le_trans (Int.neg_le_neg G) hb.2)
  have e := fr.err (Nat.two_pow_pos _) (Int.le_trans hb.1 G) (Int.le_trans (Int.neg_le_neg G) hb.2)
  refine ⟨fr.fi, fr.lt, ?_⟩
  generalize sv (fmul .f32 c d) = s at *
  clear fr
  rw [Int.natCast_pow] at e
  have e1 : s * ((2 : Nat) : Int) ^ 149 = s * 2 ^ 14 * 2 ^ 135 := by rw [Int.mul_assoc]; rfl
  rw [e1] at e
  have e2 : ((2 : Nat) : Int) ^ 149 = 2 ^ 149 := rfl
  rw [e2] at e
  generalize s * 2 ^ 14 = t at *
  omega
/-- a resistance -/
theorem resist_err {a b : Nat} {n m : Int} (ha : X n a) (hb : X (m * m) b) (n1 : 17408 ≤ n) (n2 : n ≤ 49152) (m1 : 1 ≤ m) (m2 : m ≤ 128) :
    Fi (fdiv .f32 a b) ∧ fdiv .f32 a b < 4294967296 ∧ 2 ^ 149 ≤ sv (fdiv .f32 a b) ∧ sv (fdiv .f32 a b) ≤ 2 ^ 165 ∧
      sv (fdiv .f32 a b) * (m * m) * 2 ^ 23 ≤ n * 2 ^ 149 * (2 ^ 23 + 1) + m * m * 2 ^ 23 ∧ n * 2 ^ 149 * 2 ^ 23 ≤ sv (fdiv .f32 a b) * (m * m) * (2 ^ 23 + 1) + m * m * 2 ^ 23 := by
  have q1 : (1 : Int) * 1 ≤ m * m := Int.mul_le_mul m1 m1 (by decide) (by omega)
  have q2 : m * m ≤ 128 * 128 := Int.mul_le_mul m2 m2 (by omega) (by decide)
  have fr := div_fr (a := a) (b := b) ha.fi hb.fi
  rw [ha.sv, hb.sv] at fr
  generalize m * m = M at *
  have F := FM_200
  have hp : (0 : Int) < M * 2 ^ 135 := by omega
  have big : n * 2 ^ 135 * 2 ^ 149 ≤ FM * (M * 2 ^ 135) :=
    Int.le_trans (show n * 2 ^ 135 * 2 ^ 149 ≤ 2 ^ 200 * (1 * 2 ^ 135) by omega) (Int.mul_le_mul F (by omega) (by decide) (Int.le_trans (by decide) F))
  have fr := fr hp big (by
    have : 0 ≤ FM * (M * 2 ^ 135) := Int.mul_nonneg (Int.le_trans (by decide) F) (by omega)
    generalize FM * (M * 2 ^ 135) = z at *
    omega)
  have ht : (((M * 2 ^ 135).toNat : Nat) : Int) = M * 2 ^ 135 := Int.toNat_of_nonneg (by omega)
  have hn : (0 : Int) ≤ n * 2 ^ 135 * 2 ^ 149 := by omega
  have up := fr.up hn
  have dn := fr.dn hn (by rw [ht]; exact big)
  rw [ht] at up dn
  refine ⟨fr.fi, fr.lt, ?_⟩
  generalize sv (fdiv .f32 a b) = s at *
  clear fr
  have up2 : s * M * 2 ^ 23 ≤ n * 2 ^ 149 * (2 ^ 23 + 1) + M * 2 ^ 23 := by
    have e : s * (M * 2 ^ 135) * 2 ^ 23 = s * M * 2 ^ 23 * 2 ^ 135 := by grind
    rw [e] at up
    generalize s * M = sM at *
    omega
  have dn2 : n * 2 ^ 149 * 2 ^ 23 ≤ s * M * (2 ^ 23 + 1) + M * 2 ^ 23 := by
    have e : s * (M * 2 ^ 135) * (2 ^ 23 + 1) = s * M * (2 ^ 23 + 1) * 2 ^ 135 := by grind
    rw [e] at dn
    generalize s * M = sM at *
    omega
  refine ⟨?_, ?_, up2, dn2⟩
  · refine Int.not_lt.1 fun g => ?_
    have : s * M ≤ 2 ^ 149 * M := Int.mul_le_mul_of_nonneg_right (by omega) (by omega)
    generalize s * M = sM at *
    omega
  · refine Int.not_lt.1 fun g => ?_
    have : 2 ^ 165 * M ≤ s * M := Int.mul_le_mul_of_nonneg_right (by omega) (by omega)
    generalize s * M = sM at *
    omega
end Go.Ab

namespace Go.Ab
open Ieee
set_option maxRecDepth 100000

/-- what flows, of the square of what flows -/
noncomputable def fl (q : Nat) : Nat := cond (flt .f32 q 0) (fneg .f32 (rt (fneg .f32 q))) (rt q)
theorem nn0 : Nn 0 := by unfold Nn; decide
theorem sv0 : sv 0 = 0 := by decide +kernel
theorem flt0 {q : Nat} (h : Fi q) (h2 : q < 4294967296) : flt .f32 q 0 = decide (sv q < 0) := by rw [flt_sv h.nn nn0 h2 (by decide), sv0]
theorem rt_nz : narrow (fsqrt .f64 (widen 2147483648)) = 2147483648 ∧ narrowOk (fsqrt .f64 (widen 2147483648)) = true := by decide +kernel
theorem rt_zero : rt 0 = 0 := by
  have : narrow (fsqrt .f64 (widen 0)) = 0 := by decide +kernel
  exact this
theorem neg_le0 (n : Nat) : -((n : Nat) : Int) ≤ 0 := by omega
theorem nat_abs1 (n : Nat) : ((n : Nat) : Int) = (-((n : Nat) : Int)).natAbs := by omega
theorem nat_abs2 (n : Nat) : (-((n : Nat) : Int)).natAbs = n := by omega
/-- a word by its sign -/
theorem sign_of {q : Nat} (h : Fi q) (h2 : q < 4294967296) : (sv q < 0 ∧ 2147483648 < q ∧ q - 2147483648 < 2139095040 ∧ sv q = -((rval F32 (q - 2147483648) : Nat) : Int)) ∨ (0 ≤ sv q ∧ q < 2139095040 ∧ sv q = ((rval F32 q : Nat) : Int)) ∨ (q = 2147483648 ∧ sv q = 0) := by
  unfold Fi at h
  by_cases h1 : q < 2147483648
  · refine .inr (.inl ?_)
    rw [sv_pos h1]
    exact ⟨Int.natCast_nonneg _, by omega, rfl⟩
  · rw [sv_neg (by omega) h2]
    by_cases h3 : q = 2147483648
    · subst h3
      exact .inr (.inr ⟨rfl, by decide +kernel⟩)
    · refine .inl ⟨?_, by omega, by omega, rfl⟩
      have := rval_lt F32 (show 0 < q - 2147483648 by omega)
      rw [show rval F32 0 = 0 from rval_zero F32] at this
      generalize rval F32 (q - 2147483648) = v at *
      omega
/-- the magnitude of what flows -/
theorem fl_ok {q : Nat} (h : Fi q) (h2 : q < 4294967296) : Fi (fl q) ∧ fl q < 4294967296 ∧ (sv q < 0 → narrowOk (fsqrt .f64 (widen (fneg .f32 q))) = true) ∧ (¬ sv q < 0 → narrowOk (fsqrt .f64 (widen q)) = true) ∧
    (0 ≤ sv q → 0 ≤ sv (fl q)) ∧ (sv q ≤ 0 → sv (fl q) ≤ 0) ∧ ∃ x, x < 2139095040 ∧ ((rval F32 x : Nat) : Int) = (sv q).natAbs ∧ (sv (fl q)).natAbs = rval F32 (rt x) := by
  unfold fl
  rw [flt0 h h2]
  have z0 := rt_zero
  rcases sign_of h h2 with ⟨a, b, c, d⟩ | ⟨a, b, d⟩ | ⟨a, d⟩
  · have e : fneg .f32 q = q - 2147483648 := by
      obtain ⟨b', hb⟩ : ∃ b', q = 2147483648 + b' := ⟨q - 2147483648, by omega⟩
      rw [hb, neg_neg (by omega)]; omega
    have k := rt_ok c
    rw [decide_eq_true a, e]
    obtain ⟨y, hy⟩ : ∃ y, rt (q - 2147483648) = y := ⟨_, rfl⟩
    have k1 := k.1
    have k2 := k.2
    clear k
    rw [hy] at k2
    have hn := neg_pos (a := y) (by omega)
    obtain ⟨y2, hy2⟩ : ∃ y2, fneg .f32 y = y2 := ⟨_, rfl⟩
    have hs : sv y2 = -((rval F32 y : Nat) : Int) := by rw [← hy2, hn, sv_neg (by omega) (by omega), Nat.add_sub_cancel_left]
    have hy3 : y2 = 2147483648 + y := by rw [← hy2, hn]
    clear hn
    rw [cond_true, hy, hy2]
    refine ⟨by unfold Fi; omega, by omega, fun _ => k1, fun g => absurd a g, fun g => by omega, fun _ => ?_, q - 2147483648, c, ?_, ?_⟩
    · rw [hs]; exact neg_le0 _
    · rw [d]; exact nat_abs1 _
    · rw [hs, hy]; exact nat_abs2 _
  · have k := rt_ok b
    rw [decide_eq_false (by omega)]
    show Fi (rt q) ∧ rt q < 4294967296 ∧ _
    have hs : sv (rt q) = ((rval F32 (rt q) : Nat) : Int) := sv_pos (by omega)
    refine ⟨by unfold Fi; omega, by omega, fun g => by omega, fun _ => k.1, fun _ => ?_, fun g => ?_, q, b, ?_, ?_⟩
    · show 0 ≤ sv (rt q)
      rw [hs]; exact Int.natCast_nonneg _
    · show sv (rt q) ≤ 0
      have v0 : rval F32 q = 0 := by
        generalize rval F32 q = v at *
        omega
      have q0 : q = 0 := rval_inj F32 (by rw [v0, rval_zero])
      subst q0
      rw [z0, sv0]; exact Int.le_refl _
    · rw [d]; rfl
    · show (sv (rt q)).natAbs = _
      rw [hs]; rfl
  · have e : rt q = q := by rw [a]; exact rt_nz.1
    have e2 : narrowOk (fsqrt .f64 (widen q)) = true := by rw [a]; exact rt_nz.2
    rw [decide_eq_false (by omega)]
    show Fi (rt q) ∧ rt q < 4294967296 ∧ _ ∧ _ ∧ (_ → 0 ≤ sv (rt q)) ∧ (_ → sv (rt q) ≤ 0) ∧ ∃ x, _ ∧ _ ∧ (sv (rt q)).natAbs = _
    rw [e, d]
    clear e
    refine ⟨h, h2, fun g => absurd g (by decide), fun _ => e2, fun _ => Int.le_refl _, fun _ => Int.le_refl _, 0, by decide, ?_, ?_⟩
    · rw [show rval F32 0 = 0 from rval_zero F32]; rfl
    · rw [z0, show rval F32 0 = 0 from rval_zero F32]; rfl
end Go.Ab

namespace Go.Ab
open Ieee
set_option maxRecDepth 100000

/-- an absolute value -/
noncomputable def ab (a : Nat) : Nat := cond (flt .f32 a 0 || feq .f32 a 0) (fsub .f32 0 a) a
theorem fi0 : Fi 0 := by unfold Fi; decide
theorem ab_ok {a : Nat} (h : Fi a) (h2 : a < 4294967296) (hb : (sv a).natAbs ≤ 2 ^ 200) : Fi (ab a) ∧ ab a < 4294967296 ∧ sv (ab a) = (sv a).natAbs := by
  unfold ab
  rw [fle_sv h.nn nn0 h2 (by decide), sv0]
  by_cases g : sv a ≤ 0
  · rw [decide_eq_true g]
    have fr := sub_fr (a := 0) (b := a) fi0 h
    rw [sv0] at fr
    have F := FM_200
    have fr := fr (by omega) (by omega)
    refine ⟨fr.fi, fr.lt, ?_⟩
    show sv (fsub .f32 0 a) = _
    have e := sv_abs a
    have hm : a % 2147483648 < 2139095040 := h
    have l := fr.le _ hm (by rw [← e]; omega)
    have k := fr.ge _ hm (by rw [← e]; omega)
    rw [← e] at l k
    omega
  · rw [decide_eq_false g]
    exact ⟨h, h2, by show sv a = _; omega⟩
/-- of a product the size -/
theorem mul_err {a b : Nat} (ha : Fi a) (hb : Fi b) (h1 : sv a * sv b ≤ 2 ^ 200 * 2 ^ 140) (h2 : -(2 ^ 200 * 2 ^ 140) ≤ sv a * sv b) :
    Fi (fmul .f32 a b) ∧ fmul .f32 a b < 4294967296 ∧ (0 ≤ sv a * sv b → 0 ≤ sv (fmul .f32 a b)) ∧ (sv a * sv b ≤ 0 → sv (fmul .f32 a b) ≤ 0) ∧
      (sv (fmul .f32 a b) * 2 ^ 149 - sv a * sv b) * 2 ^ 23 ≤ (sv a * sv b).natAbs + 2 ^ 149 * 2 ^ 23 ∧ (sv a * sv b - sv (fmul .f32 a b) * 2 ^ 149) * 2 ^ 23 ≤ (sv a * sv b).natAbs + 2 ^ 149 * 2 ^ 23 := by
  have fr := mul_fr (a := a) (b := b) ha hb
  generalize sv a * sv b = n at *
  have G : (2 : Int) ^ 200 * 2 ^ 140 ≤ FM * 2 ^ 149 := Int.le_trans (by decide) (Int.mul_le_mul_of_nonneg_right FM_200 (show (0 : Int) ≤ 2 ^ 149 by decide))
  have k1 := Int.le_trans h1 G
  have k2 := Int.le_trans (Int.neg_le_neg G) h2
  have fr := fr k1 k2
  have e := fr.err (Nat.two_pow_pos _) k1 k2
  rw [show ((2 ^ 149 : Nat) : Int) = 2 ^ 149 from rfl] at e
  refine ⟨fr.fi, fr.lt, fun g => fr.nonneg g, fun g => ?_, e.1, e.2⟩
  have := fr.le 0 (by decide) (by rw [show rval F32 0 = 0 from rval_zero F32]; simpa using g)
  rw [show rval F32 0 = 0 from rval_zero F32] at this
  exact this
end Go.Ab

namespace Go.Ab
open Ieee
set_option maxRecDepth 100000

end Go.Ab
