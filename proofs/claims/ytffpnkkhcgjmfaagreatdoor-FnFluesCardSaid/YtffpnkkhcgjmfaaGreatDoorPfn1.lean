/- Flues in numbers: how dense air is, drafts. -/
import Derived.Test.YtffpnkkhcgjmfaaGreatDoorA43
namespace Go.Ab
open Ieee
set_option maxRecDepth 100000

/-- 353 / u, in units -/
def Qd (u : Nat) : Nat := 353 * 2 ^ 149 / u
theorem Qd_gap : ∀ i : Fin 509, Qd (254 + i.val) + 9 * 2 ^ 135 ≤ Qd (253 + i.val) := by decide +kernel
theorem Qd_ge : Qd 762 = 353 * 2 ^ 149 / 762 := rfl
theorem Qd_anti : ∀ (k u : Nat), 253 ≤ u → u + k + 1 ≤ 762 → Qd (u + k + 1) + 9 * 2 ^ 135 ≤ Qd u := by
  intro k
  induction k with
  | zero =>
    intro u h1 h2
    have := Qd_gap ⟨u - 253, by omega⟩
    simp only at this
    rw [show 254 + (u - 253) = u + 0 + 1 by omega, show 253 + (u - 253) = u by omega] at this
    exact this
  | succ k ih =>
    intro u h1 h2
    have := ih (u + 1) (by omega) (by omega)
    rw [show u + 1 + k + 1 = u + (k + 1) + 1 by omega] at this
    have h3 := Qd_gap ⟨u - 253, by omega⟩
    simp only at h3
    rw [show 254 + (u - 253) = u + 1 by omega, show 253 + (u - 253) = u by omega] at h3
    have : 0 < 9 * 2 ^ 135 := by decide
    omega
theorem Qd_lt {u v : Nat} (h0 : 253 ≤ u) (h : u < v) (h2 : v ≤ 762) : Qd v + 9 * 2 ^ 135 ≤ Qd u := by
  have := Qd_anti (v - u - 1) u h0 (by omega)
  rw [show u + (v - u - 1) + 1 = v by omega] at this
  exact this
theorem Qd_hi {u : Nat} (h0 : 253 ≤ u) (h2 : u ≤ 762) : Qd u ≤ 7 * 2 ^ 147 ∧ 2 ^ 147 ≤ Qd u := by
  have a : Qd 253 ≤ 7 * 2 ^ 147 := by decide +kernel
  have b : 2 ^ 147 ≤ Qd 762 := by decide +kernel
  have h3 : Qd u ≤ Qd 253 := by
    by_cases h : u = 253
    · rw [h]; exact Nat.le_refl _
    · exact Nat.le_trans (Nat.le_add_right _ _) (Qd_lt (Nat.le_refl _) (show 253 < u by omega) h2)
  have h4 : Qd 762 ≤ Qd u := by
    by_cases h : u = 762
    · rw [h]; exact Nat.le_refl _
    · exact Nat.le_trans (Nat.le_add_right _ _) (Qd_lt h0 (show u < 762 by omega) (Nat.le_refl _))
  exact ⟨Nat.le_trans h3 a, Nat.le_trans b h4⟩
/-- how dense air is, at so many degrees above -273 -/
theorem dense_ok {w : Nat} {u : Nat} (hw : X ((u : Int) * 16384) w) (h0 : 253 ≤ u) (h2 : u ≤ 762) :
    Fi (fdiv .f32 1135640576 w) ∧ fdiv .f32 1135640576 w < 4294967296 ∧ sv (fdiv .f32 1135640576 w) ≤ Qd u + 2 ^ 127 ∧ (Qd u : Int) ≤ sv (fdiv .f32 1135640576 w) + 2 ^ 127 := by
  have es : sv w = (u : Int) * 2 ^ 149 := by rw [hw.sv, Int.mul_assoc]; rfl
  have e353 : sv 1135640576 = 353 * 2 ^ 149 := by decide +kernel
  have hf : Fi 1135640576 := by unfold Fi; decide
  have ht : (sv w).toNat = u * 2 ^ 149 := by rw [es]; exact Int.toNat_natCast (u * 2 ^ 149)
  have hu : (0 : Int) < u := by clear es e353 ht hw; omega
  have hp : (0 : Int) < (u : Int) * 2 ^ 149 := Int.mul_pos hu (by decide)
  have hF : (2 : Int) ^ 200 ≤ FM := by decide +kernel
  have h1 : (1 : Int) ≤ u := hu
  have big : (353 * 2 ^ 149 * 2 ^ 149 : Int) ≤ FM * ((u : Int) * 2 ^ 149) :=
    Int.le_trans (show (353 * 2 ^ 149 * 2 ^ 149 : Int) ≤ 2 ^ 200 * (1 * 2 ^ 149) by decide) (Int.mul_le_mul hF (Int.mul_le_mul_of_nonneg_right h1 (by decide)) (by decide) (Int.le_trans (by decide) hF))
  have fr := div_fr (a := 1135640576) hf hw.fi (by rw [es]; exact hp) (by rw [e353, es]; exact big) (by
    rw [e353, es]
    exact Int.le_trans (Int.neg_nonpos_of_nonneg (Int.mul_nonneg (Int.le_trans (by decide) hF) (Int.le_of_lt hp))) (by decide))
  rw [ht, e353] at fr
  refine ⟨fr.fi, fr.lt, ?_⟩
  have up := fr.up (by decide)
  have dn := fr.dn (by decide) (by rw [Int.natCast_mul]; exact big)
  have hn := fr.nonneg (by decide)
  have q1 : Qd u * u ≤ 353 * 2 ^ 149 := Nat.div_mul_le_self _ _
  have q2 : 353 * 2 ^ 149 < (Qd u + 1) * u := by
    have := Nat.lt_mul_div_succ (353 * 2 ^ 149) (show 0 < u by omega)
    rw [Nat.mul_comm u] at this
    exact this
  have hq := (Qd_hi h0 h2).1
  generalize Qd u = q at *
  generalize sv (fdiv .f32 1135640576 w) = s at *
  -- s * u against 353 * 2 ^ 149
  have up2 : s * u * 2 ^ 23 ≤ 353 * 2 ^ 149 * (2 ^ 23 + 1) + u * 2 ^ 23 := by
    have e : s * ((u * 2 ^ 149 : Nat) : Int) * 2 ^ 23 = (s * u * 2 ^ 23) * 2 ^ 149 := by rw [Int.natCast_mul]; grind
    rw [e] at up
    omega
  have dn2 : 353 * 2 ^ 149 * 2 ^ 23 ≤ s * u * (2 ^ 23 + 1) + u * 2 ^ 23 := by
    have e : s * ((u * 2 ^ 149 : Nat) : Int) * (2 ^ 23 + 1) = (s * u * (2 ^ 23 + 1)) * 2 ^ 149 := by rw [Int.natCast_mul]; grind
    rw [e] at dn
    omega
  constructor
  · refine Int.not_lt.1 fun g => ?_
    have g2 : ((q : Int) + 2 ^ 127 + 1) * u ≤ s * u := Int.mul_le_mul_of_nonneg_right (by omega) (by omega)
    have g3 : (353 * 2 ^ 149 : Int) < ((q : Int) + 1) * u := by
      have := (Int.ofNat_lt).2 q2
      rw [Int.natCast_mul] at this
      exact this
    rw [show ((q : Int) + 2 ^ 127 + 1) * u = (q + 1) * u + 2 ^ 127 * u by grind] at g2
    generalize s * (u : Int) = su at *
    generalize ((q : Int) + 1) * u = qu at *
    omega
  · refine Int.not_lt.1 fun g => ?_
    have g2 : (s + 2 ^ 127 + 1) * u ≤ (q : Int) * u := Int.mul_le_mul_of_nonneg_right (by omega) (by omega)
    have g3 : (q : Int) * u ≤ 353 * 2 ^ 149 := by
      have := (Int.ofNat_le).2 q1
      rw [Int.natCast_mul] at this
      exact this
    rw [show (s + 2 ^ 127 + 1) * (u : Int) = s * u + (2 ^ 127 + 1) * u by grind] at g2
    generalize s * (u : Int) = su at *
    generalize (q : Int) * u = qu at *
    omega
end Go.Ab

namespace Go.Ab
open Ieee
set_option maxRecDepth 100000

theorem FM_200 : (2 : Int) ^ 200 ≤ FM := by decide +kernel
theorem FM_mul {n : Int} {d : Nat} {b : Int} (hb : b ≤ 2 ^ 200) (h0 : 0 ≤ b) (hd : 0 ≤ (d : Int)) (h1 : n ≤ b * d) (h2 : -(b * d) ≤ n) : n ≤ FM * d ∧ -(FM * d) ≤ n := by
  have h : b * (d : Int) ≤ FM * d := Int.mul_le_mul_of_nonneg_right (Int.le_trans hb FM_200) hd
  generalize FM * (d : Int) = z at *
  omega
/-- a difference -/
theorem diff_err {a b : Nat} {p q : Int} (ha : Fi a) (hb : Fi b) (a1 : sv a ≤ p + 2 ^ 127) (a2 : p ≤ sv a + 2 ^ 127) (b1 : sv b ≤ q + 2 ^ 127) (b2 : q ≤ sv b + 2 ^ 127)
    (p1 : 2 ^ 147 ≤ p) (p2 : p ≤ 7 * 2 ^ 147) (q1 : 2 ^ 147 ≤ q) (q2 : q ≤ 7 * 2 ^ 147) :
    Fi (fsub .f32 a b) ∧ sv (fsub .f32 a b) ≤ p - q + 2 ^ 129 ∧ p - q ≤ sv (fsub .f32 a b) + 2 ^ 129 := by
  have fr := sub_fr (a := a) (b := b) ha hb
  have F := FM_200
  generalize sv a = x at *
  generalize sv b = y at *
  have fr := fr (by omega) (by omega)
  have e := fr.err Nat.one_pos (by omega) (by omega)
  refine ⟨fr.fi, ?_⟩
  generalize sv (fsub .f32 a b) = s at *
  clear fr
  omega
/-- a draft -/
theorem draft_err {c d : Nat} {C e : Int} (hc : Fi c) (hd : Fi d) (c0 : sv c = C * 2 ^ 135) (c1 : 39936 ≤ C) (c2 : C ≤ 1277952) (d1 : sv d ≤ e + 2 ^ 129) (d2 : e ≤ sv d + 2 ^ 129) (e1 : e ≤ 6 * 2 ^ 147) (e2 : -(6 * 2 ^ 147) ≤ e) :
    Fi (fmul .f32 c d) ∧ fmul .f32 c d < 4294967296 ∧ sv (fmul .f32 c d) * 2 ^ 14 ≤ C * e + 2 ^ 151 ∧ C * e ≤ sv (fmul .f32 c d) * 2 ^ 14 + 2 ^ 151 := by
  have fr := mul_fr (a := c) (b := d) hc hd
  rw [c0] at fr
  have F := FM_200
  generalize sv d = y at *
  have u1 : C * y ≤ C * (e + 2 ^ 129) := Int.mul_le_mul_of_nonneg_left d1 (by omega)
  have u2 : C * e ≤ C * (y + 2 ^ 129) := Int.mul_le_mul_of_nonneg_left d2 (by omega)
  have u3 : C * e ≤ C * (6 * 2 ^ 147) := Int.mul_le_mul_of_nonneg_left e1 (by omega)
  have u4 : C * (-(6 * 2 ^ 147)) ≤ C * e := Int.mul_le_mul_of_nonneg_left e2 (by omega)
  rw [Int.mul_add] at u1 u2
  rw [show C * 2 ^ 135 * y = C * y * 2 ^ 135 by grind] at fr
  generalize C * y = Cy at *
  generalize C * e = Ce at *
  have hb : Cy * 2 ^ 135 ≤ 2 ^ 200 * 2 ^ 149 ∧ -(2 ^ 200 * 2 ^ 149) ≤ Cy * 2 ^ 135 := by omega
  have G : (2 : Int) ^ 200 * 2 ^ 149 ≤ FM * 2 ^ 149 := Int.mul_le_mul_of_nonneg_right F (by decide)
  have fr := fr (Int.le_trans hb.1 G) (Int.le_trans (Int.neg_le_neg G) hb.2)
  have e := fr.err (Nat.two_pow_pos _) (Int.le_trans hb.1 G) (Int.le_trans (Int.neg_le_neg G) hb.2)
  refine ⟨fr.fi, fr.lt, ?_⟩
  generalize sv (fmul .f32 c d) = s at *
  clear fr
  rw [Int.natCast_pow] at e
  have e1 : s * ((2 : Nat) : Int) ^ 149 = s * 2 ^ 14 * 2 ^ 135 := by rw [Int.mul_assoc]; rfl
  rw [e1] at e
  have e2 : ((2 : Nat) : Int) ^ 149 = 2 ^ 149 := rfl
  rw [e2] at e
  generalize s * 2 ^ 14 = t at *
  omega
/-- a push added -/
theorem push_err {x p : Nat} {P : Int} (hx : Fi x) (hp : Fi p) (p0 : sv p = P * 2 ^ 149) (p1 : -4 ≤ P) (p2 : P ≤ 4) (x1 : sv x ≤ 2 ^ 156) (x2 : -(2 ^ 156) ≤ sv x) :
    Fi (fadd .f32 x p) ∧ fadd .f32 x p < 4294967296 ∧ sv (fadd .f32 x p) ≤ sv x + P * 2 ^ 149 + 2 ^ 135 ∧ sv x + P * 2 ^ 149 ≤ sv (fadd .f32 x p) + 2 ^ 135 := by
  have fr := add_fr (a := x) (b := p) hx hp
  rw [p0] at fr
  have F := FM_200
  generalize sv x = y at *
  have fr := fr (by omega) (by omega)
  have e := fr.err Nat.one_pos (by omega) (by omega)
  refine ⟨fr.fi, fr.lt, ?_⟩
  generalize sv (fadd .f32 x p) = s at *
  clear fr
  omega
/-- a push added: what is not nought is not near it -/
theorem push_far {x p : Nat} {P : Int} (hx : Fi x) (hp : Fi p) (p0 : sv p = P * 2 ^ 149) (p1 : -4 ≤ P) (p2 : P ≤ 4) (x1 : sv x ≤ 2 ^ 156) (x2 : -(2 ^ 156) ≤ sv x) (h0 : P = 0 → sv x = 0 ∨ 2 ^ 138 ≤ sv x ∨ sv x ≤ -(2 ^ 138)) :
    sv (fadd .f32 x p) = 0 ∨ 2 ^ 124 ≤ sv (fadd .f32 x p) ∨ sv (fadd .f32 x p) ≤ -(2 ^ 124) := by
  have fr := add_fr (a := x) (b := p) hx hp
  rw [p0] at fr
  have F := FM_200
  have gr : (sv x < 2 ^ 148 ∧ -(2 ^ 148) < sv x) ∨ ∃ c : Int, sv x = c * 2 ^ 125 := by
    by_cases h : 2 ^ (125 + 23) ≤ rval F32 (x % 2147483648)
    · obtain ⟨c, hc⟩ := rep_grid _ 125 h
      refine .inr ?_
      have := sv_abs x
      rw [hc] at this
      rcases Int.natAbs_eq (sv x) with g | g
      · exact ⟨c, by rw [g, this]; rfl⟩
      · exact ⟨-c, by rw [g, this, Int.neg_mul]; rfl⟩
    · have := sv_abs x
      refine .inl ?_
      generalize rval F32 (x % 2147483648) = v at *
      generalize sv x = y at *
      omega
  generalize sv x = y at *
  have fr := fr (by omega) (by omega)
  have e := fr.err Nat.one_pos (by omega) (by omega)
  have z : y + P * 2 ^ 149 = 0 → sv (fadd .f32 x p) = 0 := fun g => by
    have a := fr.le 0 (by decide) (by rw [g]; exact Int.le_of_eq (by rw [show rval F32 0 = 0 from rval_zero F32]; rfl))
    have b := fr.ge 0 (by decide) (by rw [g]; exact Int.le_of_eq (by rw [show rval F32 0 = 0 from rval_zero F32]; rfl))
    rw [show rval F32 0 = 0 from rval_zero F32] at a b
    exact Int.le_antisymm a b
  generalize sv (fadd .f32 x p) = s at *
  clear fr
  have far : y + P * 2 ^ 149 = 0 ∨ 2 ^ 125 ≤ y + P * 2 ^ 149 ∨ y + P * 2 ^ 149 ≤ -(2 ^ 125) := by
    by_cases hP : P = 0
    · have := h0 hP; subst hP; omega
    · rcases gr with g | ⟨c, g⟩
      · omega
      · subst g; omega
  rcases far with g | g
  · exact .inl (z g)
  · omega
/-- a resistance -/
theorem resist_err {a b : Nat} {n m : Int} (ha : X n a) (hb : X (m * m) b) (n1 : 17408 ≤ n) (n2 : n ≤ 49152) (m1 : 1 ≤ m) (m2 : m ≤ 128) :
    Fi (fdiv .f32 a b) ∧ fdiv .f32 a b < 4294967296 ∧ 2 ^ 149 ≤ sv (fdiv .f32 a b) ∧ sv (fdiv .f32 a b) ≤ 2 ^ 165 ∧
      sv (fdiv .f32 a b) * (m * m) * 2 ^ 23 ≤ n * 2 ^ 149 * (2 ^ 23 + 1) + m * m * 2 ^ 23 ∧ n * 2 ^ 149 * 2 ^ 23 ≤ sv (fdiv .f32 a b) * (m * m) * (2 ^ 23 + 1) + m * m * 2 ^ 23 := by
  have q1 : (1 : Int) * 1 ≤ m * m := Int.mul_le_mul m1 m1 (by decide) (by omega)
  have q2 : m * m ≤ 128 * 128 := Int.mul_le_mul m2 m2 (by omega) (by decide)
  have fr := div_fr (a := a) (b := b) ha.fi hb.fi
  rw [ha.sv, hb.sv] at fr
  generalize m * m = M at *
  have F := FM_200
  have hp : (0 : Int) < M * 2 ^ 135 := by omega
  have big : n * 2 ^ 135 * 2 ^ 149 ≤ FM * (M * 2 ^ 135) :=
    Int.le_trans (show n * 2 ^ 135 * 2 ^ 149 ≤ 2 ^ 200 * (1 * 2 ^ 135) by omega) (Int.mul_le_mul F (by omega) (by decide) (Int.le_trans (by decide) F))
  have fr := fr hp big (by
    have : 0 ≤ FM * (M * 2 ^ 135) := Int.mul_nonneg (Int.le_trans (by decide) F) (by omega)
    generalize FM * (M * 2 ^ 135) = z at *
    omega)
  have ht : (((M * 2 ^ 135).toNat : Nat) : Int) = M * 2 ^ 135 := Int.toNat_of_nonneg (by omega)
  have hn : (0 : Int) ≤ n * 2 ^ 135 * 2 ^ 149 := by omega
  have up := fr.up hn
  have dn := fr.dn hn (by rw [ht]; exact big)
  rw [ht] at up dn
  refine ⟨fr.fi, fr.lt, ?_⟩
  generalize sv (fdiv .f32 a b) = s at *
  clear fr
  have up2 : s * M * 2 ^ 23 ≤ n * 2 ^ 149 * (2 ^ 23 + 1) + M * 2 ^ 23 := by
    have e : s * (M * 2 ^ 135) * 2 ^ 23 = s * M * 2 ^ 23 * 2 ^ 135 := by grind
    rw [e] at up
    generalize s * M = sM at *
    omega
  have dn2 : n * 2 ^ 149 * 2 ^ 23 ≤ s * M * (2 ^ 23 + 1) + M * 2 ^ 23 := by
    have e : s * (M * 2 ^ 135) * (2 ^ 23 + 1) = s * M * (2 ^ 23 + 1) * 2 ^ 135 := by grind
    rw [e] at dn
    generalize s * M = sM at *
    omega
  refine ⟨?_, ?_, up2, dn2⟩
  · refine Int.not_lt.1 fun g => ?_
    have : s * M ≤ 2 ^ 149 * M := Int.mul_le_mul_of_nonneg_right (by omega) (by omega)
    generalize s * M = sM at *
    omega
  · refine Int.not_lt.1 fun g => ?_
    have : 2 ^ 165 * M ≤ s * M := Int.mul_le_mul_of_nonneg_right (by omega) (by omega)
    generalize s * M = sM at *
    omega
/-- what is divided by a resistance -/
theorem quot_err {z r : Nat} (hz : Fi z) (hr : Fi r) (r1 : 2 ^ 149 ≤ sv r) (r2 : sv r ≤ 2 ^ 165) (z1 : sv z ≤ 2 ^ 157) (z2 : -(2 ^ 157) ≤ sv z) :
    Fi (fdiv .f32 z r) ∧ fdiv .f32 z r < 4294967296 ∧ (0 ≤ sv z → 0 ≤ sv (fdiv .f32 z r)) ∧ (sv z ≤ 0 → sv (fdiv .f32 z r) ≤ 0) ∧ sv (fdiv .f32 z r) ≤ 2 ^ 158 ∧ -(2 ^ 158) ≤ sv (fdiv .f32 z r) ∧
      (sv (fdiv .f32 z r) * sv r - sv z * 2 ^ 149) * 2 ^ 23 ≤ (sv z).natAbs * 2 ^ 149 + sv r * 2 ^ 23 ∧ (sv z * 2 ^ 149 - sv (fdiv .f32 z r) * sv r) * 2 ^ 23 ≤ (sv z).natAbs * 2 ^ 149 + sv r * 2 ^ 23 := by
  have fr := div_fr (a := z) (b := r) hz hr
  have F := FM_200
  generalize sv z = y at *
  generalize sv r = R at *
  have hp : 0 < R := by omega
  have big : (2 : Int) ^ 157 * 2 ^ 149 ≤ FM * R := Int.le_trans (show (2 : Int) ^ 157 * 2 ^ 149 ≤ 2 ^ 200 * 2 ^ 149 by decide) (Int.mul_le_mul F r1 (by decide) (Int.le_trans (by decide) F))
  have fr := fr hp (by omega) (by generalize FM * R = q at *; omega)
  have ht : ((R.toNat : Nat) : Int) = R := Int.toNat_of_nonneg (by omega)
  have e := fr.err (by omega) (by rw [ht]; omega) (by rw [ht]; generalize FM * R = q at *; omega)
  rw [ht] at e
  have s1 : 0 ≤ y → 0 ≤ sv (fdiv .f32 z r) := fun g => fr.nonneg (by omega)
  have s2 : y ≤ 0 → sv (fdiv .f32 z r) ≤ 0 := fun g => by
    have := fr.le 0 (by decide) (by rw [show rval F32 0 = 0 from rval_zero F32]; omega)
    rw [show rval F32 0 = 0 from rval_zero F32] at this
    exact this
  refine ⟨fr.fi, fr.lt, s1, s2, ?_⟩
  generalize sv (fdiv .f32 z r) = s at *
  clear fr
  have en : ((y * 2 ^ 149).natAbs : Int) = y.natAbs * 2 ^ 149 := by omega
  rw [en] at e
  refine ⟨?_, ?_, e.1, e.2⟩
  · refine Int.not_lt.1 fun g => ?_
    have : (2 ^ 158) * R ≤ s * R := Int.mul_le_mul_of_nonneg_right (by omega) (by omega)
    generalize s * R = sR at *
    omega
  · refine Int.not_lt.1 fun g => ?_
    have : s * R ≤ (-(2 ^ 158)) * R := Int.mul_le_mul_of_nonneg_right (by omega) (by omega)
    rw [Int.neg_mul] at this
    generalize s * R = sR at *
    omega
end Go.Ab

namespace Go.Ab
open Ieee
set_option maxRecDepth 100000

/-- what flows, of the square of what flows -/
noncomputable def fl (q : Nat) : Nat := cond (flt .f32 q 0) (fneg .f32 (rt (fneg .f32 q))) (rt q)
theorem nn0 : Nn 0 := by unfold Nn; decide
theorem sv0 : sv 0 = 0 := by decide +kernel
theorem flt0 {q : Nat} (h : Fi q) (h2 : q < 4294967296) : flt .f32 q 0 = decide (sv q < 0) := by rw [flt_sv h.nn nn0 h2 (by decide), sv0]
theorem rt_nz : narrow (fsqrt .f64 (widen 2147483648)) = 2147483648 ∧ narrowOk (fsqrt .f64 (widen 2147483648)) = true := by decide +kernel
theorem rt_zero : rt 0 = 0 := by
  have : narrow (fsqrt .f64 (widen 0)) = 0 := by decide +kernel
  exact this
theorem neg_le0 (n : Nat) : -((n : Nat) : Int) ≤ 0 := by omega
theorem nat_abs1 (n : Nat) : ((n : Nat) : Int) = (-((n : Nat) : Int)).natAbs := by omega
theorem nat_abs2 (n : Nat) : (-((n : Nat) : Int)).natAbs = n := by omega
/-- a word by its sign -/
theorem sign_of {q : Nat} (h : Fi q) (h2 : q < 4294967296) : (sv q < 0 ∧ 2147483648 < q ∧ q - 2147483648 < 2139095040 ∧ sv q = -((rval F32 (q - 2147483648) : Nat) : Int)) ∨ (0 ≤ sv q ∧ q < 2139095040 ∧ sv q = ((rval F32 q : Nat) : Int)) ∨ (q = 2147483648 ∧ sv q = 0) := by
  unfold Fi at h
  by_cases h1 : q < 2147483648
  · refine .inr (.inl ?_)
    rw [sv_pos h1]
    exact ⟨Int.natCast_nonneg _, by omega, rfl⟩
  · rw [sv_neg (by omega) h2]
    by_cases h3 : q = 2147483648
    · subst h3
      exact .inr (.inr ⟨rfl, by decide +kernel⟩)
    · refine .inl ⟨?_, by omega, by omega, rfl⟩
      have := rval_lt F32 (show 0 < q - 2147483648 by omega)
      rw [show rval F32 0 = 0 from rval_zero F32] at this
      generalize rval F32 (q - 2147483648) = v at *
      omega
/-- the magnitude of what flows -/
theorem fl_ok {q : Nat} (h : Fi q) (h2 : q < 4294967296) : Fi (fl q) ∧ fl q < 4294967296 ∧ (sv q < 0 → narrowOk (fsqrt .f64 (widen (fneg .f32 q))) = true) ∧ (¬ sv q < 0 → narrowOk (fsqrt .f64 (widen q)) = true) ∧
    (0 ≤ sv q → 0 ≤ sv (fl q)) ∧ (sv q ≤ 0 → sv (fl q) ≤ 0) ∧ ∃ x, x < 2139095040 ∧ ((rval F32 x : Nat) : Int) = (sv q).natAbs ∧ (sv (fl q)).natAbs = rval F32 (rt x) := by
  unfold fl
  rw [flt0 h h2]
  have z0 := rt_zero
  rcases sign_of h h2 with ⟨a, b, c, d⟩ | ⟨a, b, d⟩ | ⟨a, d⟩
  · have e : fneg .f32 q = q - 2147483648 := by
      obtain ⟨b', hb⟩ : ∃ b', q = 2147483648 + b' := ⟨q - 2147483648, by omega⟩
      rw [hb, neg_neg (by omega)]; omega
    have k := rt_ok c
    rw [decide_eq_true a, e]
    obtain ⟨y, hy⟩ : ∃ y, rt (q - 2147483648) = y := ⟨_, rfl⟩
    have k1 := k.1
    have k2 := k.2
    clear k
    rw [hy] at k2
    have hn := neg_pos (a := y) (by omega)
    obtain ⟨y2, hy2⟩ : ∃ y2, fneg .f32 y = y2 := ⟨_, rfl⟩
    have hs : sv y2 = -((rval F32 y : Nat) : Int) := by rw [← hy2, hn, sv_neg (by omega) (by omega), Nat.add_sub_cancel_left]
    have hy3 : y2 = 2147483648 + y := by rw [← hy2, hn]
    clear hn
    rw [cond_true, hy, hy2]
    refine ⟨by unfold Fi; omega, by omega, fun _ => k1, fun g => absurd a g, fun g => by omega, fun _ => ?_, q - 2147483648, c, ?_, ?_⟩
    · rw [hs]; exact neg_le0 _
    · rw [d]; exact nat_abs1 _
    · rw [hs, hy]; exact nat_abs2 _
  · have k := rt_ok b
    rw [decide_eq_false (by omega)]
    show Fi (rt q) ∧ rt q < 4294967296 ∧ _
    have hs : sv (rt q) = ((rval F32 (rt q) : Nat) : Int) := sv_pos (by omega)
    refine ⟨by unfold Fi; omega, by omega, fun g => by omega, fun _ => k.1, fun _ => ?_, fun g => ?_, q, b, ?_, ?_⟩
    · show 0 ≤ sv (rt q)
      rw [hs]; exact Int.natCast_nonneg _
    · show sv (rt q) ≤ 0
      have v0 : rval F32 q = 0 := by
        generalize rval F32 q = v at *
        omega
      have q0 : q = 0 := rval_inj F32 (by rw [v0, rval_zero])
      subst q0
      rw [z0, sv0]; exact Int.le_refl _
    · rw [d]; rfl
    · show (sv (rt q)).natAbs = _
      rw [hs]; rfl
  · have e : rt q = q := by rw [a]; exact rt_nz.1
    have e2 : narrowOk (fsqrt .f64 (widen q)) = true := by rw [a]; exact rt_nz.2
    rw [decide_eq_false (by omega)]
    show Fi (rt q) ∧ rt q < 4294967296 ∧ _ ∧ _ ∧ (_ → 0 ≤ sv (rt q)) ∧ (_ → sv (rt q) ≤ 0) ∧ ∃ x, _ ∧ _ ∧ (sv (rt q)).natAbs = _
    rw [e, d]
    clear e
    refine ⟨h, h2, fun g => absurd g (by decide), fun _ => e2, fun _ => Int.le_refl _, fun _ => Int.le_refl _, 0, by decide, ?_, ?_⟩
    · rw [show rval F32 0 = 0 from rval_zero F32]; rfl
    · rw [z0, show rval F32 0 = 0 from rval_zero F32]; rfl
/-- of two that lie well apart -/
theorem fl_mono {p q : Nat} (hp : Fi p) (hp2 : p < 4294967296) (hq : Fi q) (hq2 : q < 4294967296) (b1 : (sv p).natAbs ≤ 2 ^ 158) (b2 : (sv q).natAbs ≤ 2 ^ 158)
    (h : 0 ≤ sv p → sv p * (2 ^ 21 + 1) + 2 ^ 30 ≤ sv q * 2 ^ 21) (h' : sv q < 0 → -sv q * (2 ^ 21 + 1) + 2 ^ 30 ≤ -sv p * 2 ^ 21) : sv (fl p) ≤ sv (fl q) := by
  obtain ⟨p1, p2, _, _, p3, p4, x, x1, x2, x3⟩ := fl_ok hp hp2
  obtain ⟨q1, q2, _, _, q3, q4, y, y1, y2, y3⟩ := fl_ok hq hq2
  by_cases g : 0 ≤ sv p
  · have hh := h g
    have : rt x ≤ rt y := rt_mono x1 y1 (by omega) (by
      generalize rval F32 x = V at *
      generalize rval F32 y = W at *
      omega)
    have := rv_le this
    have a := p3 g
    have b := q3 (by generalize sv q = Q at *; generalize sv p = P at *; omega)
    generalize sv (fl p) = A at *
    generalize sv (fl q) = B at *
    omega
  · by_cases g2 : 0 ≤ sv q
    · exact Int.le_trans (p4 (by omega)) (q3 g2)
    · have hh := h' (by omega)
      have : rt y ≤ rt x := rt_mono y1 x1 (by omega) (by
        generalize rval F32 x = V at *
        generalize rval F32 y = W at *
        omega)
      have := rv_le this
      have a := p4 (by omega)
      have b := q4 (by omega)
      generalize sv (fl p) = A at *
      generalize sv (fl q) = B at *
      omega
theorem div_pos {p q R : Int} (hR : 0 < R) (h : p * R ≤ q * R) : p ≤ q := Int.le_of_mul_le_mul_right h hR
/-- a greater push, the same resistance -/
theorem flow_more {z z' r : Nat} (hz : Fi z) (hz' : Fi z') (hr : Fi r) (r1 : 2 ^ 149 ≤ sv r) (r2 : sv r ≤ 2 ^ 165) (z1 : sv z ≤ 2 ^ 157) (z2 : -(2 ^ 157) ≤ sv z) (z1' : sv z' ≤ 2 ^ 157) (z2' : -(2 ^ 157) ≤ sv z') (h : sv z + 2 ^ 137 ≤ sv z') :
    sv (fl (fdiv .f32 z r)) ≤ sv (fl (fdiv .f32 z' r)) := by
  obtain ⟨a1, a2, a3, a4, a5, a6, a7, a8⟩ := quot_err hz hr r1 r2 z1 z2
  obtain ⟨b1, b2, b3, b4, b5, b6, b7, b8⟩ := quot_err hz' hr r1 r2 z1' z2'
  refine fl_mono a1 a2 b1 b2 (by omega) (by omega) (fun g => ?_) (fun g => ?_)
  · have g2 := Int.mul_nonneg g (show 0 ≤ sv r by omega)
    generalize sv (fdiv .f32 z r) = s at *
    generalize sv (fdiv .f32 z' r) = s' at *
    generalize sv z = y at *
    generalize sv z' = y' at *
    generalize sv r = R at *
    refine div_pos (show 0 < R by omega) ?_
    rw [show (s * (2 ^ 21 + 1) + 2 ^ 30) * R = s * R * (2 ^ 21 + 1) + 2 ^ 30 * R by grind, show s' * 2 ^ 21 * R = s' * R * 2 ^ 21 by grind]
    generalize s * R = a at *
    generalize s' * R = b at *
    clear a1 a2 b1 b2 hz hz' hr a3 a4 b3 b4
    omega
  · have g2 : sv (fdiv .f32 z' r) * sv r ≤ 0 := Int.mul_nonpos_of_nonpos_of_nonneg (Int.le_of_lt g) (by omega)
    generalize sv (fdiv .f32 z r) = s at *
    generalize sv (fdiv .f32 z' r) = s' at *
    generalize sv z = y at *
    generalize sv z' = y' at *
    generalize sv r = R at *
    refine div_pos (show 0 < R by omega) ?_
    rw [show (-s' * (2 ^ 21 + 1) + 2 ^ 30) * R = -(s' * R) * (2 ^ 21 + 1) + 2 ^ 30 * R by grind, show -s * 2 ^ 21 * R = -(s * R) * 2 ^ 21 by grind]
    generalize s * R = a at *
    generalize s' * R = b at *
    clear a1 a2 b1 b2 hz hz' hr a3 a4 b3 b4
    omega
/-- a lesser resistance, the same push: more flows -/
theorem flow_wide {z r r' : Nat} (hz : Fi z) (hr : Fi r) (hr' : Fi r') (r1 : 2 ^ 149 ≤ sv r) (r2 : sv r ≤ 2 ^ 165) (r1' : 2 ^ 149 ≤ sv r') (r2' : sv r' ≤ 2 ^ 165) (z1 : sv z ≤ 2 ^ 157) (z2 : -(2 ^ 157) ≤ sv z)
    (far : sv z = 0 ∨ 2 ^ 124 ≤ sv z ∨ sv z ≤ -(2 ^ 124)) (h : sv r' * 13 ≤ sv r * 10) :
    (0 ≤ sv z → sv (fl (fdiv .f32 z r)) ≤ sv (fl (fdiv .f32 z r'))) ∧ (sv z ≤ 0 → sv (fl (fdiv .f32 z r')) ≤ sv (fl (fdiv .f32 z r))) := by
  obtain ⟨a1, a2, a3, a4, a5, a6, a7, a8⟩ := quot_err hz hr r1 r2 z1 z2
  obtain ⟨b1, b2, b3, b4, b5, b6, b7, b8⟩ := quot_err hz hr' r1' r2' z1 z2
  have zero : sv z = 0 → sv (fl (fdiv .f32 z r)) = 0 ∧ sv (fl (fdiv .f32 z r')) = 0 := fun g => by
    have p := fl_ok a1 a2
    have q := fl_ok b1 b2
    have e1 := Int.le_antisymm (a4 (by omega)) (a3 (by omega))
    have e2 := Int.le_antisymm (b4 (by omega)) (b3 (by omega))
    exact ⟨Int.le_antisymm (p.2.2.2.2.2.1 (by omega)) (p.2.2.2.2.1 (by omega)), Int.le_antisymm (q.2.2.2.2.2.1 (by omega)) (q.2.2.2.2.1 (by omega))⟩
  constructor
  · intro g
    by_cases g0 : sv z = 0
    · rw [(zero g0).1, (zero g0).2]; exact Int.le_refl _
    · have k := a3 g
      have k' := b3 g
      have m := Int.mul_le_mul_of_nonneg_left h k'
      refine fl_mono a1 a2 b1 b2 (by omega) (by omega) (fun _ => ?_) (fun g2 => by omega)
      clear zero a1 a2 b1 b2 hz hr hr' a3 a4 b3 b4
      generalize sv (fdiv .f32 z r) = s at *
      generalize sv (fdiv .f32 z r') = s' at *
      generalize sv z = y at *
      generalize sv r = R at *
      generalize sv r' = R' at *
      refine div_pos (show 0 < R by omega) ?_
      rw [show (s * (2 ^ 21 + 1) + 2 ^ 30) * R = s * R * (2 ^ 21 + 1) + 2 ^ 30 * R by grind, show s' * 2 ^ 21 * R = s' * R * 2 ^ 21 by grind]
      rw [show s' * (R' * 13) = s' * R' * 13 by grind, show s' * (R * 10) = s' * R * 10 by grind] at m
      generalize s * R = a at *
      generalize s' * R = b at *
      generalize s' * R' = c at *
      omega
  · intro g
    by_cases g0 : sv z = 0
    · rw [(zero g0).1, (zero g0).2]; exact Int.le_refl _
    · have k := a4 g
      have k' := b4 g
      have m := Int.mul_le_mul_of_nonneg_left h (show 0 ≤ -sv (fdiv .f32 z r') by omega)
      refine fl_mono b1 b2 a1 a2 (by omega) (by omega) (fun g2 => ?_) (fun _ => ?_)
      · exfalso
        have e : sv (fdiv .f32 z r') = 0 := by omega
        rw [e, Int.zero_mul] at b7
        clear zero a1 a2 b1 b2 hz hr hr' a3 a4 b3 b4 a7 a8 b8 m e
        generalize sv z = y at *
        generalize sv r' = R' at *
        omega
      · clear zero a1 a2 b1 b2 hz hr hr' a3 a4 b3 b4
        generalize sv (fdiv .f32 z r) = s at *
        generalize sv (fdiv .f32 z r') = s' at *
        generalize sv z = y at *
        generalize sv r = R at *
        generalize sv r' = R' at *
        refine div_pos (show 0 < R by omega) ?_
        rw [show (-s * (2 ^ 21 + 1) + 2 ^ 30) * R = -(s * R) * (2 ^ 21 + 1) + 2 ^ 30 * R by grind, show -s' * 2 ^ 21 * R = -(s' * R) * 2 ^ 21 by grind]
        rw [show -s' * (R' * 13) = -(s' * R') * 13 by grind, show -s' * (R * 10) = -(s' * R) * 10 by grind] at m
        generalize s * R = a at *
        generalize s' * R = b at *
        generalize s' * R' = c at *
        omega
end Go.Ab

namespace Go.Ab
open Ieee
set_option maxRecDepth 100000

/-- an absolute value -/
noncomputable def ab (a : Nat) : Nat := cond (flt .f32 a 0 || feq .f32 a 0) (fsub .f32 0 a) a
theorem fi0 : Fi 0 := by unfold Fi; decide
theorem ab_ok {a : Nat} (h : Fi a) (h2 : a < 4294967296) (hb : (sv a).natAbs ≤ 2 ^ 200) : Fi (ab a) ∧ ab a < 4294967296 ∧ sv (ab a) = (sv a).natAbs := by
  unfold ab
  rw [fle_sv h.nn nn0 h2 (by decide), sv0]
  by_cases g : sv a ≤ 0
  · rw [decide_eq_true g]
    have fr := sub_fr (a := 0) (b := a) fi0 h
    rw [sv0] at fr
    have F := FM_200
    have fr := fr (by omega) (by omega)
    refine ⟨fr.fi, fr.lt, ?_⟩
    show sv (fsub .f32 0 a) = _
    have e := sv_abs a
    have hm : a % 2147483648 < 2139095040 := h
    have l := fr.le _ hm (by rw [← e]; omega)
    have k := fr.ge _ hm (by rw [← e]; omega)
    rw [← e] at l k
    omega
  · rw [decide_eq_false g]
    exact ⟨h, h2, by show sv a = _; omega⟩
/-- of a product the size -/
theorem mul_err {a b : Nat} (ha : Fi a) (hb : Fi b) (h1 : sv a * sv b ≤ 2 ^ 200 * 2 ^ 140) (h2 : -(2 ^ 200 * 2 ^ 140) ≤ sv a * sv b) :
    Fi (fmul .f32 a b) ∧ fmul .f32 a b < 4294967296 ∧ (0 ≤ sv a * sv b → 0 ≤ sv (fmul .f32 a b)) ∧ (sv a * sv b ≤ 0 → sv (fmul .f32 a b) ≤ 0) ∧
      (sv (fmul .f32 a b) * 2 ^ 149 - sv a * sv b) * 2 ^ 23 ≤ (sv a * sv b).natAbs + 2 ^ 149 * 2 ^ 23 ∧ (sv a * sv b - sv (fmul .f32 a b) * 2 ^ 149) * 2 ^ 23 ≤ (sv a * sv b).natAbs + 2 ^ 149 * 2 ^ 23 := by
  have fr := mul_fr (a := a) (b := b) ha hb
  generalize sv a * sv b = n at *
  have G : (2 : Int) ^ 200 * 2 ^ 140 ≤ FM * 2 ^ 149 := Int.le_trans (by decide) (Int.mul_le_mul_of_nonneg_right FM_200 (show (0 : Int) ≤ 2 ^ 149 by decide))
  have k1 := Int.le_trans h1 G
  have k2 := Int.le_trans (Int.neg_le_neg G) h2
  have fr := fr k1 k2
  have e := fr.err (Nat.two_pow_pos _) k1 k2
  rw [show ((2 ^ 149 : Nat) : Int) = 2 ^ 149 from rfl] at e
  refine ⟨fr.fi, fr.lt, fun g => fr.nonneg g, fun g => ?_, e.1, e.2⟩
  have := fr.le 0 (by decide) (by rw [show rval F32 0 = 0 from rval_zero F32]; simpa using g)
  rw [show rval F32 0 = 0 from rval_zero F32] at this
  exact this
theorem near_core {Z Q p T A R : Int} (z0 : 0 ≤ Z) (zb : Z ≤ 2 ^ 157) (q0 : 0 ≤ Q) (p0 : 0 ≤ p) (pb : p ≤ 2 ^ 154) (t0 : 0 ≤ T) (a0 : 0 ≤ A) (r0 : 0 ≤ R) (rb : R ≤ 2 ^ 165)
    (h1 : (Q * R - Z * 2 ^ 149) * 2 ^ 23 ≤ Z * 2 ^ 149 + R * 2 ^ 23) (h1' : (Z * 2 ^ 149 - Q * R) * 2 ^ 23 ≤ Z * 2 ^ 149 + R * 2 ^ 23)
    (h2 : p * p * 70368744177664 ≤ Q * 2 ^ 149 * 70368760954881 + p * 281474976710656 + 70368744177664) (h2' : Q * 2 ^ 149 * 70368744177664 ≤ p * p * 70368760954881 + p * 281474976710656 + 70368744177664)
    (h3 : (T * 2 ^ 149 - p * p) * 2 ^ 23 ≤ p * p + 2 ^ 149 * 2 ^ 23) (h3' : (p * p - T * 2 ^ 149) * 2 ^ 23 ≤ p * p + 2 ^ 149 * 2 ^ 23)
    (h4 : (A * 2 ^ 149 - T * R) * 2 ^ 23 ≤ T * R + 2 ^ 149 * 2 ^ 23) (h4' : (T * R - A * 2 ^ 149) * 2 ^ 23 ≤ T * R + 2 ^ 149 * 2 ^ 23) :
    A ≤ Z + 2 ^ 138 ∧ Z ≤ A + 2 ^ 138 := by
  have k2 := Int.mul_le_mul_of_nonneg_right h2 r0
  have k2' := Int.mul_le_mul_of_nonneg_right h2' r0
  have k3 := Int.mul_le_mul_of_nonneg_right h3 r0
  have k3' := Int.mul_le_mul_of_nonneg_right h3' r0
  have pr : p * R ≤ 2 ^ 154 * 2 ^ 165 := Int.mul_le_mul pb rb r0 (by decide)
  have pr0 := Int.mul_nonneg p0 r0
  have c0 := Int.mul_nonneg (Int.mul_nonneg p0 p0) r0
  have b0 := Int.mul_nonneg t0 r0
  have d0 := Int.mul_nonneg q0 r0
  rw [show p * p * 70368744177664 * R = p * p * R * 70368744177664 by grind, show (Q * 2 ^ 149 * 70368760954881 + p * 281474976710656 + 70368744177664) * R = Q * R * 2 ^ 149 * 70368760954881 + p * R * 281474976710656 + R * 70368744177664 by grind] at k2
  rw [show Q * 2 ^ 149 * 70368744177664 * R = Q * R * 2 ^ 149 * 70368744177664 by grind, show (p * p * 70368760954881 + p * 281474976710656 + 70368744177664) * R = p * p * R * 70368760954881 + p * R * 281474976710656 + R * 70368744177664 by grind] at k2'
  rw [show (T * 2 ^ 149 - p * p) * 2 ^ 23 * R = (T * R * 2 ^ 149 - p * p * R) * 2 ^ 23 by grind, show (p * p + 2 ^ 149 * 2 ^ 23) * R = p * p * R + R * 2 ^ 149 * 2 ^ 23 by grind] at k3
  rw [show (p * p - T * 2 ^ 149) * 2 ^ 23 * R = (p * p * R - T * R * 2 ^ 149) * 2 ^ 23 by grind, show (p * p + 2 ^ 149 * 2 ^ 23) * R = p * p * R + R * 2 ^ 149 * 2 ^ 23 by grind] at k3'
  clear h2 h2' h3 h3'
  generalize p * p * R = c at *
  generalize p * R = e at *
  generalize T * R = b at *
  generalize Q * R = d at *
  clear p0 pb t0 q0
  -- one after the other
  have d1 : d ≤ Z * 2 ^ 149 + 2 ^ 284 := by omega
  have d2 : Z * 2 ^ 149 ≤ d + 2 ^ 284 := by omega
  have c1 : c ≤ d * 2 ^ 149 + 2 ^ 434 := by omega
  have c2 : d * 2 ^ 149 ≤ c + 2 ^ 434 := by omega
  have b1 : b * 2 ^ 149 ≤ c + 2 ^ 433 := by omega
  have b2 : c ≤ b * 2 ^ 149 + 2 ^ 433 := by omega
  have a1 : A * 2 ^ 149 ≤ b + 2 ^ 284 := by omega
  have a2 : b ≤ A * 2 ^ 149 + 2 ^ 284 := by omega
  omega
end Go.Ab

namespace Go.Ab
open Ieee
set_option maxRecDepth 100000

theorem near_sv {z r : Nat} (hz : Fi z) (hr : Fi r) (r1 : 2 ^ 149 ≤ sv r) (r2 : sv r ≤ 2 ^ 165) (z1 : sv z ≤ 2 ^ 157) (z2 : -(2 ^ 157) ≤ sv z) :
    Fi (fmul .f32 (fmul .f32 (fl (fdiv .f32 z r)) (ab (fl (fdiv .f32 z r)))) r) ∧ fmul .f32 (fmul .f32 (fl (fdiv .f32 z r)) (ab (fl (fdiv .f32 z r)))) r < 4294967296 ∧
    sv (fmul .f32 (fmul .f32 (fl (fdiv .f32 z r)) (ab (fl (fdiv .f32 z r)))) r) ≤ sv z + 2 ^ 138 ∧ sv z ≤ sv (fmul .f32 (fmul .f32 (fl (fdiv .f32 z r)) (ab (fl (fdiv .f32 z r)))) r) + 2 ^ 138 := by
  obtain ⟨a1, a2, a3, a4, a5, a6, a7, a8⟩ := quot_err hz hr r1 r2 z1 z2
  obtain ⟨f1, f2, _, _, f3, f4, x, x1, x2, x3⟩ := fl_ok a1 a2
  have up := rt_up x1
  have dn := rt_dn x1
  rw [← x3] at up dn
  generalize fdiv .f32 z r = q at *
  generalize fl q = u at *
  -- in whole numbers
  have up' : ((sv u).natAbs : Int) * (sv u).natAbs * 70368744177664 ≤ ((sv q).natAbs : Int) * 2 ^ 149 * 70368760954881 + (sv u).natAbs * 281474976710656 + 70368744177664 := by
    have h := Int.ofNat_le.2 up
    simp only [Int.natCast_add, Int.natCast_mul, x2] at h
    exact h
  have dn' : ((sv q).natAbs : Int) * 2 ^ 149 * 70368744177664 ≤ ((sv u).natAbs : Int) * (sv u).natAbs * 70368760954881 + (sv u).natAbs * 281474976710656 + 70368744177664 := by
    have h := Int.ofNat_le.2 dn
    simp only [Int.natCast_add, Int.natCast_mul, x2] at h
    exact h
  have qb : ((sv q).natAbs : Int) ≤ 2 ^ 158 := by omega
  have pb : ((sv u).natAbs : Int) ≤ 2 ^ 154 := by
    refine Int.not_lt.1 fun g => ?_
    have g2 : (2 ^ 154 : Int) * (sv u).natAbs ≤ (sv u).natAbs * (sv u).natAbs := Int.mul_le_mul_of_nonneg_right (by omega) (by omega)
    generalize ((sv u).natAbs : Int) = p at *
    generalize ((sv q).natAbs : Int) = Q at *
    generalize p * p = pp at *
    clear dn'
    omega
  have hab := ab_ok f1 f2 (by omega)
  have sq : sv u * sv (ab u) = sv u * (sv u).natAbs := by rw [hab.2.2]
  have pp0 : 0 ≤ ((sv u).natAbs : Int) * (sv u).natAbs := Int.mul_nonneg (by omega) (by omega)
  have ppb : ((sv u).natAbs : Int) * (sv u).natAbs ≤ 2 ^ 154 * 2 ^ 154 := Int.mul_le_mul pb pb (by omega) (by decide)
  have sgn : (0 ≤ sv z ∧ 0 ≤ sv q ∧ 0 ≤ sv u) ∨ (sv z ≤ 0 ∧ sv q ≤ 0 ∧ sv u ≤ 0) := by
    by_cases g : 0 ≤ sv z
    · exact .inl ⟨g, a3 g, f3 (a3 g)⟩
    · exact .inr ⟨by omega, a4 (by omega), f4 (a4 (by omega))⟩
  have R0 : 0 ≤ sv r := by omega
  rcases sgn with ⟨s1, s2, s3⟩ | ⟨s1, s2, s3⟩
  · have en : ((sv u).natAbs : Int) = sv u := Int.natAbs_of_nonneg s3
    have eq_ : ((sv q).natAbs : Int) = sv q := Int.natAbs_of_nonneg s2
    have ez : ((sv z).natAbs : Int) = sv z := Int.natAbs_of_nonneg s1
    rw [en] at up' dn' pb pp0 ppb sq
    rw [eq_] at up' dn'
    rw [ez] at a7 a8
    obtain ⟨m1, m2, m3, _, m4, m5⟩ := mul_err f1 hab.1 (by rw [sq]; omega) (by rw [sq]; omega)
    rw [sq] at m3 m4 m5
    rw [Int.natAbs_of_nonneg pp0] at m4 m5
    have t0 := m3 pp0
    generalize fmul .f32 u (ab u) = t at *
    have tb : sv t ≤ 2 ^ 160 := by
      generalize sv u * sv u = c at *
      omega
    have tr : 0 ≤ sv t * sv r := Int.mul_nonneg t0 R0
    have trb : sv t * sv r ≤ 2 ^ 160 * 2 ^ 165 := Int.mul_le_mul tb r2 R0 (by decide)
    obtain ⟨n1, n2, n3, _, n4, n5⟩ := mul_err m1 hr (by omega) (by omega)
    rw [Int.natAbs_of_nonneg tr] at n4 n5
    have A0 := n3 tr
    refine ⟨n1, n2, ?_⟩
    exact near_core s1 z1 s2 s3 pb t0 A0 R0 r2 a7 a8 up' dn' m4 m5 n4 n5
  · have en : ((sv u).natAbs : Int) = -sv u := by omega
    have eq_ : ((sv q).natAbs : Int) = -sv q := by omega
    have ez : ((sv z).natAbs : Int) = -sv z := by omega
    have sq2 : sv u * sv (ab u) = -((sv u).natAbs * (sv u).natAbs) := by rw [sq, en]; grind
    obtain ⟨m1, m2, _, m3, m4, m5⟩ := mul_err f1 hab.1 (by rw [sq2]; omega) (by rw [sq2]; omega)
    rw [sq2] at m3 m4 m5
    have t0 := m3 (by omega)
    rw [show ((-(((sv u).natAbs : Int) * (sv u).natAbs)).natAbs : Int) = (sv u).natAbs * (sv u).natAbs by omega] at m4 m5
    rw [en] at up' dn' pb pp0 ppb m4 m5
    rw [eq_] at up' dn'
    rw [ez] at a7 a8
    generalize fmul .f32 u (ab u) = t at *
    have tb : -sv t ≤ 2 ^ 160 := by
      generalize -sv u * -sv u = c at *
      omega
    have tr0 : 0 ≤ -sv t * sv r := Int.mul_nonneg (by omega) R0
    have trb : -sv t * sv r ≤ 2 ^ 160 * 2 ^ 165 := Int.mul_le_mul tb r2 R0 (by decide)
    have te : sv t * sv r = -(-sv t * sv r) := by grind
    obtain ⟨n1, n2, _, n3, n4, n5⟩ := mul_err m1 hr (by omega) (by omega)
    have A0 := n3 (by omega)
    rw [show ((sv t * sv r).natAbs : Int) = -sv t * sv r by omega] at n4 n5
    refine ⟨n1, n2, ?_⟩
    have k := near_core (Z := -sv z) (Q := -sv q) (p := -sv u) (T := -sv t) (A := -sv (fmul .f32 t r)) (R := sv r) (by omega) (by omega) (by omega) (by omega) pb (by omega) (by omega) R0 r2
      (by have e : -sv q * sv r = -(sv q * sv r) := Int.neg_mul _ _
          rw [e]; generalize sv q * sv r = w at *; omega)
      (by have e : -sv q * sv r = -(sv q * sv r) := Int.neg_mul _ _
          rw [e]; generalize sv q * sv r = w at *; omega) up' dn'
      (by generalize -sv u * -sv u = w at *; omega) (by generalize -sv u * -sv u = w at *; omega)
      (by generalize -sv t * sv r = w at *; omega) (by generalize -sv t * sv r = w at *; omega)
    omega
theorem c001 : Fi 981668463 ∧ sv 981668463 = ((rval F32 981668463 : Nat) : Int) ∧ 2 ^ 139 ≤ sv 981668463 ∧ sv 981668463 ≤ 2 ^ 140 := by
  unfold Fi; decide +kernel
/-- near, as the law asks for it -/
theorem near_law {a z : Nat} (ha : Fi a) (hz : Fi z) (hz2 : z < 4294967296) (z1 : sv z ≤ 2 ^ 157) (z2 : -(2 ^ 157) ≤ sv z) (h1 : sv a ≤ sv z + 2 ^ 138) (h2 : sv z ≤ sv a + 2 ^ 138) :
    (flt .f32 (ab (fsub .f32 a z)) (fadd .f32 (fmul .f32 981668463 (ab z)) 981668463) || feq .f32 (ab (fsub .f32 a z)) (fadd .f32 (fmul .f32 981668463 (ab z)) 981668463)) = true := by
  have F := FM_200
  obtain ⟨k1, k2, k3, k4⟩ := c001
  have fr := sub_fr (a := a) (b := z) ha hz (by omega) (by omega)
  have e := fr.err Nat.one_pos (by omega) (by omega)
  have hd : (sv (fsub .f32 a z)).natAbs ≤ 2 ^ 139 := by
    generalize sv (fsub .f32 a z) = s at *
    clear fr
    omega
  have had := ab_ok fr.fi fr.lt (Nat.le_trans hd (by decide))
  have haz := ab_ok hz hz2 (by omega)
  have pz : 0 ≤ sv (ab z) := by rw [haz.2.2]; omega
  have pzb : sv (ab z) ≤ 2 ^ 157 := by rw [haz.2.2]; omega
  have pm : 0 ≤ sv 981668463 * sv (ab z) := Int.mul_nonneg (Int.le_trans (by decide) k3) pz
  have pmb : sv 981668463 * sv (ab z) ≤ 2 ^ 140 * 2 ^ 157 := Int.mul_le_mul k4 pzb pz (by decide)
  obtain ⟨m1, m2, m3, _, m4, _⟩ := mul_err k1 haz.1 (by clear k2; omega) (by clear k2; omega)
  have t0 := m3 pm
  have tb : sv (fmul .f32 981668463 (ab z)) ≤ 2 ^ 160 := by
    rw [Int.natAbs_of_nonneg pm] at m4
    generalize sv 981668463 * sv (ab z) = n at *
    generalize sv (fmul .f32 981668463 (ab z)) = s at *
    clear k2
    omega
  generalize fmul .f32 981668463 (ab z) = t at *
  obtain ⟨V, hV⟩ : ∃ V, sv 981668463 = V := ⟨_, rfl⟩
  rw [hV] at k2 k3 k4
  clear pm pmb m3 m4
  have fb := add_fr (a := t) (b := 981668463) m1 k1 (by rw [hV]; omega) (by rw [hV]; omega)
  rw [hV] at fb
  have ge := fb.ge 981668463 (by decide) (by rw [← k2]; omega)
  rw [← k2] at ge
  rw [fle_sv had.1.nn fb.fi.nn had.2.1 fb.lt]
  refine decide_eq_true ?_
  rw [had.2.2]
  have : (2 : Int) ^ 139 ≤ sv (fadd .f32 t 981668463) := Int.le_trans k3 ge
  generalize sv (fadd .f32 t 981668463) = s at *
  omega
/-- where a push is not near nought, something flows -/
theorem flow_far {z r : Nat} (hz : Fi z) (hr : Fi r) (r1 : 2 ^ 149 ≤ sv r) (r2 : sv r ≤ 2 ^ 165) (z1 : sv z ≤ 2 ^ 157) (z2 : -(2 ^ 157) ≤ sv z) (far : sv z = 0 ∨ 2 ^ 124 ≤ sv z ∨ sv z ≤ -(2 ^ 124)) :
    (0 < sv z → 0 < sv (fl (fdiv .f32 z r))) ∧ (sv z < 0 → sv (fl (fdiv .f32 z r)) < 0) ∧ (sv z = 0 → sv (fl (fdiv .f32 z r)) = 0) := by
  obtain ⟨a1, a2, a3, a4, a5, a6, a7, a8⟩ := quot_err hz hr r1 r2 z1 z2
  obtain ⟨f1, f2, _, _, f3, f4, x, x1, x2, x3⟩ := fl_ok a1 a2
  have dn := rt_dn x1
  rw [← x3] at dn
  have nz : sv (fdiv .f32 z r) ≠ 0 → (sv (fl (fdiv .f32 z r))).natAbs ≠ 0 := fun g g2 => by
    rw [g2] at dn
    clear a7 a8 far
    generalize sv (fdiv .f32 z r) = q at *
    generalize rval F32 x = v at *
    omega
  have nq : sv z ≠ 0 → sv (fdiv .f32 z r) ≠ 0 := fun g g2 => by
    rw [g2, Int.zero_mul] at a7 a8
    clear dn nz f3 f4 x2 x3
    generalize sv z = y at *
    generalize sv r = R at *
    omega
  refine ⟨fun g => ?_, fun g => ?_, fun g => ?_⟩
  · have k := f3 (a3 (by omega))
    have k2 := nz (nq (by omega))
    generalize sv (fl (fdiv .f32 z r)) = u at *
    omega
  · have k := f4 (a4 (by omega))
    have k2 := nz (nq (by omega))
    generalize sv (fl (fdiv .f32 z r)) = u at *
    omega
  · exact Int.le_antisymm (f4 (a4 (by omega))) (f3 (a3 (by omega)))
end Go.Ab
