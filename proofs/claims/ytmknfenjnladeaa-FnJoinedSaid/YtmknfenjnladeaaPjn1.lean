/- Flues in numbers: flows at pushes that lie near one another. -/
import Derived.Test.YtmknfenjnladeaaPfn1
import Derived.Test.YtmknfenjnladeaaA32
import Derived.Test.YtmknfenjnladeaaA25
namespace Go.Ab
open Ieee
set_option maxRecDepth 100000

/-- what is divided by a resistance, be it great -/
theorem quot_big {z r : Nat} (hz : Fi z) (hr : Fi r) (r1 : 2 ^ 149 ≤ sv r) (r2 : sv r ≤ 2 ^ 165) (z1 : sv z ≤ 2 ^ 160) (z2 : -(2 ^ 160) ≤ sv z) :
    Fi (fdiv .f32 z r) ∧ fdiv .f32 z r < 4294967296 ∧ (0 ≤ sv z → 0 ≤ sv (fdiv .f32 z r)) ∧ (sv z ≤ 0 → sv (fdiv .f32 z r) ≤ 0) ∧ sv (fdiv .f32 z r) ≤ 2 ^ 161 ∧ -(2 ^ 161) ≤ sv (fdiv .f32 z r) ∧
      (sv (fdiv .f32 z r) * sv r - sv z * 2 ^ 149) * 2 ^ 23 ≤ (sv z).natAbs * 2 ^ 149 + sv r * 2 ^ 23 ∧ (sv z * 2 ^ 149 - sv (fdiv .f32 z r) * sv r) * 2 ^ 23 ≤ (sv z).natAbs * 2 ^ 149 + sv r * 2 ^ 23 := by
  have fr := div_fr (a := z) (b := r) hz hr
  have F := FM_200
  generalize sv z = y at *
  generalize sv r = R at *
  have hp : 0 < R := by omega
  have big : (2 : Int) ^ 160 * 2 ^ 149 ≤ FM * R := Int.le_trans (show (2 : Int) ^ 160 * 2 ^ 149 ≤ 2 ^ 200 * 2 ^ 149 by decide) (Int.mul_le_mul F r1 (by decide) (Int.le_trans (by decide) F))
  have fr := fr hp (by omega) (by generalize FM * R = q at *; omega)
  have ht : ((R.toNat : Nat) : Int) = R := Int.toNat_of_nonneg (by omega)
  have e := fr.err (by omega) (by rw [ht]; omega) (by rw [ht]; generalize FM * R = q at *; omega)
  rw [ht] at e
  have s1 : 0 ≤ y → 0 ≤ sv (fdiv .f32 z r) := fun g => fr.nonneg (by omega)
  have s2 : y ≤ 0 → sv (fdiv .f32 z r) ≤ 0 := fun g => by
    have := fr.le 0 (by decide) (by rw [show rval F32 0 = 0 from rval_zero F32]; omega)
    rw [show rval F32 0 = 0 from rval_zero F32] at this
    exact this
  refine ⟨fr.fi, fr.lt, s1, s2, ?_⟩
  generalize sv (fdiv .f32 z r) = s at *
  clear fr
  have en : ((y * 2 ^ 149).natAbs : Int) = y.natAbs * 2 ^ 149 := by omega
  rw [en] at e
  refine ⟨?_, ?_, e.1, e.2⟩
  · refine Int.not_lt.1 fun g => ?_
    have : (2 ^ 161) * R ≤ s * R := Int.mul_le_mul_of_nonneg_right (by omega) (by omega)
    generalize s * R = sR at *
    omega
  · refine Int.not_lt.1 fun g => ?_
    have : s * R ≤ (-(2 ^ 161)) * R := Int.mul_le_mul_of_nonneg_right (by omega) (by omega)
    rw [Int.neg_mul] at this
    generalize s * R = sR at *
    omega
theorem sq_core {Z Q p R : Int} (z0 : 0 ≤ Z) (zb : Z ≤ 2 ^ 160) (q0 : 0 ≤ Q) (p0 : 0 ≤ p) (pb : p ≤ 2 ^ 156) (r0 : 0 ≤ R) (rb : R ≤ 2 ^ 165)
    (h1 : (Q * R - Z * 2 ^ 149) * 2 ^ 23 ≤ Z * 2 ^ 149 + R * 2 ^ 23) (h1' : (Z * 2 ^ 149 - Q * R) * 2 ^ 23 ≤ Z * 2 ^ 149 + R * 2 ^ 23)
    (h2 : p * p * 70368744177664 ≤ Q * 2 ^ 149 * 70368760954881 + p * 281474976710656 + 70368744177664) (h2' : Q * 2 ^ 149 * 70368744177664 ≤ p * p * 70368760954881 + p * 281474976710656 + 70368744177664) :
    p * p * R * 2 ^ 22 ≤ Z * 2 ^ 149 * 2 ^ 149 * (2 ^ 22 + 2) + 2 ^ 200 * 2 ^ 147 ∧ Z * 2 ^ 149 * 2 ^ 149 * 2 ^ 22 ≤ p * p * R * (2 ^ 22 + 2) + 2 ^ 200 * 2 ^ 147 := by
  have k2 := Int.mul_le_mul_of_nonneg_right h2 r0
  have k2' := Int.mul_le_mul_of_nonneg_right h2' r0
  have pr : p * R ≤ 2 ^ 156 * 2 ^ 165 := Int.mul_le_mul pb rb r0 (by decide)
  have pr0 := Int.mul_nonneg p0 r0
  have c0 := Int.mul_nonneg (Int.mul_nonneg p0 p0) r0
  have d0 := Int.mul_nonneg q0 r0
  rw [show p * p * 70368744177664 * R = p * p * R * 70368744177664 by grind, show (Q * 2 ^ 149 * 70368760954881 + p * 281474976710656 + 70368744177664) * R = Q * R * 2 ^ 149 * 70368760954881 + p * R * 281474976710656 + R * 70368744177664 by grind] at k2
  rw [show Q * 2 ^ 149 * 70368744177664 * R = Q * R * 2 ^ 149 * 70368744177664 by grind, show (p * p * 70368760954881 + p * 281474976710656 + 70368744177664) * R = p * p * R * 70368760954881 + p * R * 281474976710656 + R * 70368744177664 by grind] at k2'
  clear h2 h2'
  generalize p * p * R = c at *
  generalize p * R = e at *
  generalize Q * R = d at *
  clear p0 pb q0
  have d1 : d * 2 ^ 23 ≤ Z * 2 ^ 149 * (2 ^ 23 + 1) + 2 ^ 190 := by omega
  have d2 : Z * 2 ^ 149 * (2 ^ 23 - 1) ≤ d * 2 ^ 23 + 2 ^ 190 := by omega
  have c1 : c * 2 ^ 46 ≤ d * 2 ^ 149 * 70368760954881 + 2 ^ 200 * 2 ^ 170 := by omega
  have c2 : d * 2 ^ 149 * 2 ^ 46 ≤ c * 70368760954881 + 2 ^ 200 * 2 ^ 170 := by omega
  clear k2 k2' h1 h1' pr pr0
  constructor
  · omega
  · omega
/-- what flows, squared, times the resistance, against the push -/
theorem flow_sq {z r : Nat} (hz : Fi z) (hr : Fi r) (r1 : 2 ^ 149 ≤ sv r) (r2 : sv r ≤ 2 ^ 165) (z1 : sv z ≤ 2 ^ 160) (z2 : -(2 ^ 160) ≤ sv z) :
    Fi (fl (fdiv .f32 z r)) ∧ fl (fdiv .f32 z r) < 4294967296 ∧ (0 ≤ sv z → 0 ≤ sv (fl (fdiv .f32 z r))) ∧ (sv z ≤ 0 → sv (fl (fdiv .f32 z r)) ≤ 0) ∧
    ((sv (fl (fdiv .f32 z r))).natAbs : Int) * (sv (fl (fdiv .f32 z r))).natAbs * sv r * 2 ^ 22 ≤ (sv z).natAbs * 2 ^ 149 * 2 ^ 149 * (2 ^ 22 + 2) + 2 ^ 200 * 2 ^ 147 ∧
    ((sv z).natAbs : Int) * 2 ^ 149 * 2 ^ 149 * 2 ^ 22 ≤ (sv (fl (fdiv .f32 z r))).natAbs * (sv (fl (fdiv .f32 z r))).natAbs * sv r * (2 ^ 22 + 2) + 2 ^ 200 * 2 ^ 147 := by
  obtain ⟨a1, a2, a3, a4, a5, a6, a7, a8⟩ := quot_big hz hr r1 r2 z1 z2
  obtain ⟨f1, f2, _, _, f3, f4, x, x1, x2, x3⟩ := fl_ok a1 a2
  have up := rt_up x1
  have dn := rt_dn x1
  rw [← x3] at up dn
  generalize fdiv .f32 z r = q at *
  generalize fl q = u at *
  have up' : ((sv u).natAbs : Int) * (sv u).natAbs * 70368744177664 ≤ ((sv q).natAbs : Int) * 2 ^ 149 * 70368760954881 + (sv u).natAbs * 281474976710656 + 70368744177664 := by
    have h := Int.ofNat_le.2 up
    simp only [Int.natCast_add, Int.natCast_mul, x2] at h
    exact h
  have dn' : ((sv q).natAbs : Int) * 2 ^ 149 * 70368744177664 ≤ ((sv u).natAbs : Int) * (sv u).natAbs * 70368760954881 + (sv u).natAbs * 281474976710656 + 70368744177664 := by
    have h := Int.ofNat_le.2 dn
    simp only [Int.natCast_add, Int.natCast_mul, x2] at h
    exact h
  have qb : ((sv q).natAbs : Int) ≤ 2 ^ 161 := by omega
  have pb : ((sv u).natAbs : Int) ≤ 2 ^ 156 := by
    refine Int.not_lt.1 fun g => ?_
    have g2 : (2 ^ 156 : Int) * (sv u).natAbs ≤ (sv u).natAbs * (sv u).natAbs := Int.mul_le_mul_of_nonneg_right (by omega) (by omega)
    generalize ((sv u).natAbs : Int) = p at *
    generalize ((sv q).natAbs : Int) = Q at *
    generalize p * p = pp at *
    clear dn'
    omega
  have R0 : 0 ≤ sv r := by omega
  refine ⟨f1, f2, fun g => f3 (a3 g), fun g => f4 (a4 g), ?_⟩
  refine sq_core (Q := ((sv q).natAbs : Int)) (by omega) (by omega) (by omega) (by omega) pb R0 r2 ?_ ?_ up' dn'
  · by_cases g : 0 ≤ sv z
    · rw [Int.natAbs_of_nonneg g, Int.natAbs_of_nonneg (a3 g)]
      rw [Int.natAbs_of_nonneg g] at a7
      exact a7
    · have e1 : ((sv q).natAbs : Int) = -sv q := by have := a4 (by omega); omega
      have e2 : ((sv z).natAbs : Int) = -sv z := by omega
      rw [e1, e2]
      rw [e2] at a8
      have e : -sv q * sv r = -(sv q * sv r) := Int.neg_mul _ _
      rw [e]; generalize sv q * sv r = w at *; omega
  · by_cases g : 0 ≤ sv z
    · rw [Int.natAbs_of_nonneg g, Int.natAbs_of_nonneg (a3 g)]
      rw [Int.natAbs_of_nonneg g] at a8
      exact a8
    · have e1 : ((sv q).natAbs : Int) = -sv q := by have := a4 (by omega); omega
      have e2 : ((sv z).natAbs : Int) = -sv z := by omega
      rw [e1, e2]
      rw [e2] at a7
      have e : -sv q * sv r = -(sv q * sv r) := Int.neg_mul _ _
      rw [e]; generalize sv q * sv r = w at *; omega
theorem sq_lt {a b : Int} (h0 : 0 ≤ a) (h : a < b) : a * a < b * b :=
  Int.lt_of_le_of_lt (Int.mul_le_mul_of_nonneg_left (Int.le_of_lt h) h0) (Int.mul_lt_mul_of_pos_right h (by omega))
end Go.Ab

namespace Go.Ab
open Ieee
set_option maxRecDepth 100000

/-- of two numbers one is not much greater, where their squares are not -/
theorem sq_near' {u v R D e : Int} (u0 : 0 ≤ u) (v0 : 0 ≤ v) (R0 : 0 < R) (D0 : 0 ≤ D) (h : u * u * R * (2 ^ 20 - 1) ≤ v * v * R * (2 ^ 20 + 1) + e) (hD : e ≤ (2 * (v * R) * D + D * D * R) * (2 ^ 20 - 1)) : u * 2 ^ 18 ≤ v * (2 ^ 18 + 1) + D * 2 ^ 18 := by
  refine Int.not_lt.1 fun g => ?_
  have g2 : (v * (2 ^ 18 + 1) + D * 2 ^ 18) * (v * (2 ^ 18 + 1) + D * 2 ^ 18) < (u * 2 ^ 18) * (u * 2 ^ 18) := sq_lt (by omega) g
  have vD := Int.mul_nonneg v0 D0
  have vv := Int.mul_nonneg v0 v0
  have DD := Int.mul_nonneg D0 D0
  have e1 : (v * (2 ^ 18 + 1) + D * 2 ^ 18) * (v * (2 ^ 18 + 1) + D * 2 ^ 18) = v * v * (2 ^ 18 + 1) ^ 2 + v * D * (2 * (2 ^ 18 + 1) * 2 ^ 18) + D * D * 2 ^ 36 := by grind
  have e2 : (u * 2 ^ 18) * (u * 2 ^ 18) = u * u * 2 ^ 36 := by grind
  rw [e1, e2] at g2
  have g4 := Int.mul_lt_mul_of_pos_right g2 R0
  rw [show (v * v * (2 ^ 18 + 1) ^ 2 + v * D * (2 * (2 ^ 18 + 1) * 2 ^ 18) + D * D * 2 ^ 36) * R = v * v * R * (2 ^ 18 + 1) ^ 2 + v * R * D * (2 * (2 ^ 18 + 1) * 2 ^ 18) + D * D * R * 2 ^ 36 by grind, show u * u * 2 ^ 36 * R = u * u * R * 2 ^ 36 by grind] at g4
  have p1 := Int.mul_nonneg vv (Int.le_of_lt R0)
  have p2 := Int.mul_nonneg (Int.mul_nonneg v0 (Int.le_of_lt R0)) D0
  rw [show 2 * (v * R) * D = 2 * (v * R * D) by grind] at hD
  generalize u * u * R = a at *
  generalize v * v * R = b at *
  generalize D * D * R = c at *
  generalize v * R * D = d at *
  clear e1 e2 vv DD vD g2 g
  omega
/-- what is known of a flow, at a push 'z' with what draws -/
structure Fw (z : Int) (r u : Nat) : Prop where
  fi : Fi u
  lt : u < 4294967296
  pos : 0 ≤ z → 0 ≤ sv u
  neg : z ≤ 0 → sv u ≤ 0
  up : ((sv u).natAbs : Int) * (sv u).natAbs * sv r * 2 ^ 20 ≤ z.natAbs * 2 ^ 149 * 2 ^ 149 * (2 ^ 20 + 1) + 2 ^ 200 * 2 ^ 150
  dn : (z.natAbs : Int) * 2 ^ 149 * 2 ^ 149 * 2 ^ 20 ≤ (sv u).natAbs * (sv u).natAbs * sv r * (2 ^ 20 + 1) + 2 ^ 200 * 2 ^ 150
theorem fw {x p r : Nat} (hx : Fi x) (hp : Fi p) (hr : Fi r) (r1 : 2 ^ 149 ≤ sv r) (r2 : sv r ≤ 2 ^ 165) (x1 : sv x ≤ 2 ^ 156) (x2 : -(2 ^ 156) ≤ sv x) (p1 : sv p ≤ 2 ^ 159) (p2 : -(2 ^ 159) ≤ sv p) : Fw (sv x + sv p) r (fl (fdiv .f32 (fadd .f32 x p) r)) := by
  have F := FM_200
  have fr := add_fr hx hp (by omega) (by omega)
  have er := fr.err Nat.one_pos (by omega) (by omega)
  have s1 : 0 ≤ sv x + sv p → 0 ≤ sv (fadd .f32 x p) := fun g => fr.nonneg g
  have s2 : sv x + sv p ≤ 0 → sv (fadd .f32 x p) ≤ 0 := fun g => by
    have := fr.le 0 (by decide) (by rw [show rval F32 0 = 0 from rval_zero F32]; omega)
    rw [show rval F32 0 = 0 from rval_zero F32] at this
    exact this
  have zb : sv (fadd .f32 x p) ≤ 2 ^ 160 ∧ -(2 ^ 160) ≤ sv (fadd .f32 x p) := by
    generalize sv (fadd .f32 x p) = z at *
    clear fr
    omega
  obtain ⟨a, b, c, d, e, f⟩ := flow_sq fr.fi hr r1 r2 zb.1 zb.2
  refine ⟨a, b, fun g => c (s1 g), fun g => d (s2 g), ?_, ?_⟩
  · have q := Int.mul_nonneg (Int.mul_nonneg (show (0 : Int) ≤ (sv (fl (fdiv .f32 (fadd .f32 x p) r))).natAbs by omega) (show (0 : Int) ≤ (sv (fl (fdiv .f32 (fadd .f32 x p) r))).natAbs by omega)) (show 0 ≤ sv r by omega)
    generalize ((sv (fl (fdiv .f32 (fadd .f32 x p) r))).natAbs : Int) * (sv (fl (fdiv .f32 (fadd .f32 x p) r))).natAbs * sv r = A at *
    generalize sv (fadd .f32 x p) = z at *
    generalize sv x + sv p = y at *
    clear fr c d f
    have h1 : (z.natAbs : Int) * 2 ^ 23 ≤ y.natAbs * (2 ^ 23 + 1) + 2 ^ 23 := by omega
    generalize (z.natAbs : Int) = Z at *
    have y0 : (0 : Int) ≤ y.natAbs := by omega
    generalize (y.natAbs : Int) = Y at *
    clear er s1 s2 zb
    omega
  · have q := Int.mul_nonneg (Int.mul_nonneg (show (0 : Int) ≤ (sv (fl (fdiv .f32 (fadd .f32 x p) r))).natAbs by omega) (show (0 : Int) ≤ (sv (fl (fdiv .f32 (fadd .f32 x p) r))).natAbs by omega)) (show 0 ≤ sv r by omega)
    have h1 : ((sv x + sv p).natAbs : Int) * 2 ^ 23 ≤ (sv (fadd .f32 x p)).natAbs * 2 ^ 23 + (sv x + sv p).natAbs + 2 ^ 23 := by
      generalize sv (fadd .f32 x p) = z at *
      generalize sv x + sv p = y at *
      clear fr c d e f
      omega
    generalize ((sv (fl (fdiv .f32 (fadd .f32 x p) r))).natAbs : Int) * (sv (fl (fdiv .f32 (fadd .f32 x p) r))).natAbs * sv r = A at *
    have z0 : (0 : Int) ≤ (sv (fadd .f32 x p)).natAbs := by omega
    have y0 : (0 : Int) ≤ (sv x + sv p).natAbs := by omega
    generalize ((sv (fadd .f32 x p)).natAbs : Int) = Z at *
    generalize ((sv x + sv p).natAbs : Int) = Y at *
    clear fr c d e er s1 s2 zb
    omega
theorem Fw.bound {z : Int} {r u : Nat} (h : Fw z r u) (r1 : 2 ^ 149 ≤ sv r) (z1 : ((z).natAbs : Int) ≤ 1200 * 2 ^ 149) : ((sv u).natAbs : Int) ≤ 35 * 2 ^ 149 := by
  refine Int.not_lt.1 fun g => ?_
  have g1 : (35 * 2 ^ 149) * (35 * 2 ^ 149) ≤ ((sv u).natAbs : Int) * (sv u).natAbs := Int.mul_le_mul (by omega) (by omega) (by decide) (by omega)
  have g2 : (35 * 2 ^ 149) * (35 * 2 ^ 149) * 2 ^ 149 ≤ ((sv u).natAbs : Int) * (sv u).natAbs * sv r := Int.mul_le_mul g1 r1 (by decide) (Int.le_trans (by decide) g1)
  have := h.up
  generalize ((sv u).natAbs : Int) * (sv u).natAbs * sv r = a at *
  generalize ((z).natAbs : Int) = Z at *
  clear h g g1
  omega
/-- magnitudes at magnitudes that lie near one another -/
theorem mag_close {Z Z' P P' R D Δ : Int} (Z0 : 0 ≤ Z) (Z0' : 0 ≤ Z') (P0 : 0 ≤ P) (P0' : 0 ≤ P') (r1 : 2 ^ 149 ≤ R) (D0 : 0 ≤ D) (d0 : 0 ≤ Δ) (pb : P ≤ 35 * 2 ^ 149)
    (up' : P' * P' * R * 2 ^ 20 ≤ Z' * 2 ^ 149 * 2 ^ 149 * (2 ^ 20 + 1) + 2 ^ 200 * 2 ^ 150)
    (dn : Z * 2 ^ 149 * 2 ^ 149 * 2 ^ 20 ≤ P * P * R * (2 ^ 20 + 1) + 2 ^ 200 * 2 ^ 150) (h : Z' ≤ Z + Δ)
    (hD : Δ * 2 ^ 149 * 2 ^ 149 * (2 ^ 20 + 2) + 2 ^ 200 * 2 ^ 153 ≤ (2 * (P * R) * D + D * D * R) * (2 ^ 20 - 1)) : P' ≤ P + D + 2 ^ 137 := by
  have key : P' * 2 ^ 18 ≤ P * (2 ^ 18 + 1) + D * 2 ^ 18 := by
    refine sq_near' (R := R) (e := Δ * 2 ^ 149 * 2 ^ 149 * (2 ^ 20 + 2) + 2 ^ 200 * 2 ^ 153) P0' P0 (by omega) D0 ?_ hD
    have c0 := Int.mul_nonneg (Int.mul_nonneg P0 P0) (show 0 ≤ R by omega)
    have c0' := Int.mul_nonneg (Int.mul_nonneg P0' P0') (show 0 ≤ R by omega)
    generalize P * P * R = a at *
    generalize P' * P' * R = b at *
    clear hD
    omega
  omega
/-- D, where the push is near nought -/
def DA (D Δ : Int) : Prop := 2 * (Δ * 2 ^ 149 * 2 ^ 149 * (2 ^ 20 + 2)) + 2 ^ 200 * 2 ^ 155 ≤ D * D * (2 ^ 149 + 2 ^ 144) * (2 ^ 20 - 1)
theorem flow_close {z z' : Int} {r u u' : Nat} {D Δ : Int} (h : Fw z r u) (h' : Fw z' r u') (r1 : 2 ^ 149 + 2 ^ 144 ≤ sv r) (zb : ((z).natAbs : Int) ≤ 1200 * 2 ^ 149) (zb' : ((z').natAbs : Int) ≤ 1200 * 2 ^ 149) (D0 : 0 ≤ D) (d0 : 0 ≤ Δ)
    (hd : z' ≤ z + Δ) (hd' : z ≤ z' + Δ) (hA : DA D Δ) : sv u' ≤ sv u + D + 2 ^ 137 := by
  have b := h.bound (by omega) zb
  have b' := h'.bound (by omega) zb'
  have DD := Int.mul_nonneg D0 D0
  have hD : ∀ P : Int, 0 ≤ P → Δ * 2 ^ 149 * 2 ^ 149 * (2 ^ 20 + 2) + 2 ^ 200 * 2 ^ 153 ≤ (2 * (P * sv r) * D + D * D * sv r) * (2 ^ 20 - 1) := by
    intro P P0
    have q := Int.mul_nonneg (Int.mul_nonneg P0 (show 0 ≤ sv r by omega)) D0
    have q2 : D * D * (2 ^ 149 + 2 ^ 144) ≤ D * D * sv r := Int.mul_le_mul_of_nonneg_left r1 DD
    unfold DA at hA
    rw [show 2 * (P * sv r) * D = 2 * (P * sv r * D) by grind]
    generalize P * sv r * D = x at *
    generalize D * D * sv r = y at *
    generalize D * D * (2 ^ 149 + 2 ^ 144) = w at *
    omega
  by_cases g : 0 ≤ z'
  · by_cases g2 : 0 ≤ z
    · have p := h.pos g2
      have p' := h'.pos g
      have k := mag_close (Z := (z).natAbs) (Z' := (z').natAbs) (P := (sv u).natAbs) (P' := (sv u').natAbs) (R := sv r) (by omega) (by omega) (by omega) (by omega) (by omega) D0 d0 b h'.up h.dn (by omega) (hD _ (by omega))
      omega
    · -- the signs differ
      have p := h.neg (by omega)
      have p' := h'.pos g
      refine Int.not_lt.1 fun gg => ?_
      have s1 := h.up
      have s2 := h'.up
      generalize hx : ((sv u).natAbs : Int) = x at *
      generalize hy : ((sv u').natAbs : Int) = y at *
      have x0 : 0 ≤ x := by omega
      have y0 : 0 ≤ y := by omega
      have s3 : D < x + y := by omega
      have s4 : D * D ≤ (x + y) * (x + y) := Int.mul_le_mul (by omega) (by omega) D0 (by omega)
      have s5 : 0 ≤ (x - y) * (x - y) := by
        by_cases q : x ≤ y
        · rw [show (x - y) * (x - y) = (y - x) * (y - x) by grind]; exact Int.mul_nonneg (by omega) (by omega)
        · exact Int.mul_nonneg (by omega) (by omega)
      have s6 : D * D * sv r ≤ (2 * (x * x) + 2 * (y * y)) * sv r := by
        refine Int.mul_le_mul_of_nonneg_right ?_ (by omega)
        rw [show (x + y) * (x + y) = 2 * (x * x) + 2 * (y * y) - (x - y) * (x - y) by grind] at s4
        omega
      rw [show (2 * (x * x) + 2 * (y * y)) * sv r = 2 * (x * x * sv r) + 2 * (y * y * sv r) by grind] at s6
      have q2 : D * D * (2 ^ 149 + 2 ^ 144) ≤ D * D * sv r := Int.mul_le_mul_of_nonneg_left r1 DD
      unfold DA at hA
      have z1 : ((z).natAbs : Int) + (z').natAbs ≤ Δ := by omega
      generalize ((z).natAbs : Int) = Z at *
      generalize ((z').natAbs : Int) = Z' at *
      generalize x * x * sv r = a at *
      generalize y * y * sv r = c at *
      generalize D * D * sv r = d at *
      generalize D * D * (2 ^ 149 + 2 ^ 144) = w at *
      clear hD s4 s5 DD h h'
      omega
  · by_cases g2 : 0 ≤ z
    · have p := h.pos g2
      have p' := h'.neg (by omega)
      omega
    · have p := h.neg (by omega)
      have p' := h'.neg (by omega)
      have k := mag_close (Z := (z').natAbs) (Z' := (z).natAbs) (P := (sv u').natAbs) (P' := (sv u).natAbs) (R := sv r) (by omega) (by omega) (by omega) (by omega) (by omega) D0 d0 b' h.up h'.dn (by omega) (hD _ (by omega))
      omega
/-- far from nought -/
theorem big_root {Z P R : Int} (Z0 : 13 * 2 ^ 149 ≤ Z) (P0 : 0 ≤ P) (r1 : 2 ^ 149 ≤ R) (dn : Z * 2 ^ 149 * 2 ^ 149 * 2 ^ 20 ≤ P * P * R * (2 ^ 20 + 1) + 2 ^ 200 * 2 ^ 150) : 3 * 2 ^ 149 * 2 ^ 149 ≤ P * R := by
  refine Int.not_lt.1 fun g => ?_
  have PR0 : 0 ≤ P * R := Int.mul_nonneg P0 (by omega)
  have k : (P * R) * (P * R) ≤ (3 * 2 ^ 149 * 2 ^ 149) * (3 * 2 ^ 149 * 2 ^ 149) := Int.mul_le_mul (by omega) (by omega) PR0 (by decide)
  have k2 : P * P * R * 2 ^ 149 ≤ P * P * R * R := Int.mul_le_mul_of_nonneg_left r1 (Int.mul_nonneg (Int.mul_nonneg P0 P0) (by omega))
  rw [show (P * R) * (P * R) = P * P * R * R by grind] at k
  generalize P * P * R * R = a at *
  generalize P * P * R = b at *
  clear PR0 g
  omega
theorem flow_far_close {z z' : Int} {r u u' : Nat} {Δ : Int} (h : Fw z r u) (h' : Fw z' r u') (r1 : 2 ^ 149 ≤ sv r) (zb : ((z).natAbs : Int) ≤ 1200 * 2 ^ 149) (zb' : ((z').natAbs : Int) ≤ 1200 * 2 ^ 149) (d0 : 0 ≤ Δ) (d1 : Δ ≤ 2 ^ 140)
    (hd : z' ≤ z + Δ) (hd' : z ≤ z' + Δ) (far : (13 * 2 ^ 149 ≤ z ∧ 13 * 2 ^ 149 ≤ z') ∨ (z ≤ -(13 * 2 ^ 149) ∧ z' ≤ -(13 * 2 ^ 149))) : sv u' ≤ sv u + 2 ^ 139 := by
  have b := h.bound r1 zb
  have b' := h'.bound r1 zb'
  have hD : ∀ P : Int, 0 ≤ P → 3 * 2 ^ 149 * 2 ^ 149 ≤ P * sv r → Δ * 2 ^ 149 * 2 ^ 149 * (2 ^ 20 + 2) + 2 ^ 200 * 2 ^ 153 ≤ (2 * (P * sv r) * 2 ^ 138 + 2 ^ 138 * 2 ^ 138 * sv r) * (2 ^ 20 - 1) := by
    intro P P0 k
    generalize P * sv r = x at *
    generalize sv r = R at *
    clear h h' hd hd' far
    omega
  rcases far with ⟨f1, f2⟩ | ⟨f1, f2⟩
  · have p := h.pos (by omega)
    have p' := h'.pos (by omega)
    have q := big_root (Z := (z).natAbs) (P := (sv u).natAbs) (R := sv r) (by omega) (by omega) r1 h.dn
    have k := mag_close (Z := (z).natAbs) (Z' := (z').natAbs) (P := (sv u).natAbs) (P' := (sv u').natAbs) (R := sv r) (D := 2 ^ 138) (by omega) (by omega) (by omega) (by omega) r1 (by decide) d0 b h'.up h.dn (by omega) (hD _ (by omega) q)
    omega
  · have p := h.neg (by omega)
    have p' := h'.neg (by omega)
    have q := big_root (Z := (z').natAbs) (P := (sv u').natAbs) (R := sv r) (by omega) (by omega) r1 h'.dn
    have k := mag_close (Z := (z').natAbs) (Z' := (z).natAbs) (P := (sv u').natAbs) (P' := (sv u).natAbs) (R := sv r) (D := 2 ^ 138) (by omega) (by omega) (by omega) (by omega) r1 (by decide) d0 b' h.up h'.dn (by omega) (hD _ (by omega) q)
    omega
end Go.Ab

namespace Go.Ab
open Ieee
set_option maxRecDepth 100000

/-- twice a number is a number -/
theorem dbl {r : Nat} (h : r < 2122317824) : ∃ r', r' < 2139095040 ∧ rval F32 r' = 2 * rval F32 r := by
  have hB : F32.binade = 2 ^ 23 := by decide +kernel
  by_cases h1 : r < 2 ^ 23
  · refine ⟨2 * r, by omega, ?_⟩
    rw [rval_small F32 (2 * r) (by rw [hB]; omega), rval_small F32 r (by rw [hB]; omega)]
  · refine ⟨r + 2 ^ 23, by omega, ?_⟩
    unfold rval
    rw [hB, if_neg (by omega), if_neg h1, show (r + 2 ^ 23) % 2 ^ 23 = r % 2 ^ 23 by omega, show (r + 2 ^ 23) / 2 ^ 23 - 1 = (r / 2 ^ 23 - 1) + 1 by omega]
    generalize r / 2 ^ 23 - 1 = e
    have k2 : 2 ^ (e + 1) = 2 ^ e * 2 := Nat.pow_succ 2 e
    rw [k2]
    generalize 2 ^ e = z at *
    generalize 2 ^ 23 + r % 2 ^ 23 = y at *
    grind
theorem half_r {r : Nat} (h1 : 2 ^ 24 ≤ r) (h2 : r < 2139095040) : 2 * rval F32 (r - 2 ^ 23) = rval F32 r := by
  have hB : F32.binade = 2 ^ 23 := by decide +kernel
  unfold rval
  rw [hB, if_neg (by omega), if_neg (by omega), show (r - 2 ^ 23) % 2 ^ 23 = r % 2 ^ 23 by omega, show r / 2 ^ 23 - 1 = ((r - 2 ^ 23) / 2 ^ 23 - 1) + 1 by omega]
  generalize (r - 2 ^ 23) / 2 ^ 23 - 1 = e
  have k2 : 2 ^ (e + 1) = 2 ^ e * 2 := Nat.pow_succ 2 e
  rw [k2]
  generalize 2 ^ e = z at *
  generalize 2 ^ 23 + r % 2 ^ 23 = y at *
  grind
/-- a bound of what is tried -/
structure Bw (m : Nat) : Prop where
  f : Fi m
  l : m < 4294967296
  lo : -(1000 * 2 ^ 149) ≤ sv m
  hi : sv m ≤ 1000 * 2 ^ 149
theorem sv_cases {a : Nat} (h : Fi a) : ∃ r, r < 2139095040 ∧ (sv a = ((rval F32 r : Nat) : Int) ∨ sv a = -((rval F32 r : Nat) : Int)) := by
  refine ⟨a % 2147483648, h, ?_⟩
  have := sv_abs a
  omega
theorem c05' : sv 1056964608 = 2 ^ 148 := by decide +kernel
theorem r1024 : rval F32 1149239296 = 1024 * 2 ^ 149 := by decide +kernel
theorem rung_lim {r : Nat} (h : rval F32 r ≤ 1000 * 2 ^ 149) : r < 2122317824 := by
  refine Nat.lt_of_not_le fun g => ?_
  have h1 := rv_le (show 1149239296 ≤ r by omega)
  rw [r1024] at h1
  generalize rval F32 r = z at *
  omega
/-- half of a number -/
theorem half_err {a : Nat} (h : Fi a) (h1 : sv a ≤ 2000 * 2 ^ 149) (h2 : -(2000 * 2 ^ 149) ≤ sv a) : Fi (fmul .f32 1056964608 a) ∧ fmul .f32 1056964608 a < 4294967296 ∧ 2 * sv (fmul .f32 1056964608 a) ≤ sv a + 4 ∧ sv a ≤ 2 * sv (fmul .f32 1056964608 a) + 4 ∧
    (∀ b : Nat, Fi b → (sv a ≤ 2 * sv b → sv (fmul .f32 1056964608 a) ≤ sv b) ∧ (2 * sv b ≤ sv a → sv b ≤ sv (fmul .f32 1056964608 a))) := by
  have F := FM_200
  have G : (2 : Int) ^ 200 * 2 ^ 149 ≤ FM * 2 ^ 149 := Int.mul_le_mul_of_nonneg_right F (by decide)
  have k1 : sv 1056964608 * sv a ≤ 2 ^ 200 * 2 ^ 149 := by rw [c05']; omega
  have k2 : -(2 ^ 200 * 2 ^ 149) ≤ sv 1056964608 * sv a := by rw [c05']; omega
  have fr := mul_fr (a := 1056964608) (b := a) (by unfold Fi; decide) h (Int.le_trans k1 G) (Int.le_trans (Int.neg_le_neg G) k2)
  rw [c05'] at fr
  have cc : ((2 ^ 149 : Nat) : Int) = 2 ^ 149 := rfl
  have cmp : ∀ b : Nat, Fi b → (sv a ≤ 2 * sv b → sv (fmul .f32 1056964608 a) ≤ sv b) ∧ (2 * sv b ≤ sv a → sv b ≤ sv (fmul .f32 1056964608 a)) := by
    intro b hb
    obtain ⟨r, hr, e | e⟩ := sv_cases hb
    · rw [e]
      exact ⟨fun g => fr.le r hr (by rw [cc]; omega), fun g => fr.ge r hr (by rw [cc]; omega)⟩
    · rw [e]
      exact ⟨fun g => fr.le' r hr (by rw [cc]; omega), fun g => fr.ge' r hr (by rw [cc]; omega)⟩
  refine ⟨fr.fi, fr.lt, ?_, ?_, cmp⟩
  all_goals
    obtain ⟨r, hr, e⟩ := sv_cases h
    by_cases hb : 2 ^ 24 ≤ r
    · have hh := half_r hb hr
      rcases e with e | e
      · have x1 := fr.le (r - 2 ^ 23) (by omega) (by rw [cc, e, ← hh]; omega)
        have x2 := fr.ge (r - 2 ^ 23) (by omega) (by rw [cc, e, ← hh]; omega)
        rw [e, ← hh]
        generalize sv (fmul .f32 1056964608 a) = s at *
        generalize rval F32 (r - 2 ^ 23) = v at *
        omega
      · have x1 := fr.le' (r - 2 ^ 23) (by omega) (by rw [cc, e, ← hh]; omega)
        have x2 := fr.ge' (r - 2 ^ 23) (by omega) (by rw [cc, e, ← hh]; omega)
        rw [e, ← hh]
        generalize sv (fmul .f32 1056964608 a) = s at *
        generalize rval F32 (r - 2 ^ 23) = v at *
        omega
    · have hs : rval F32 r ≤ 2 ^ 24 := by
        have hB : F32.binade = 2 ^ 23 := by decide +kernel
        rw [rval_small F32 r (by rw [hB]; omega)]
        omega
      have er := fr.err (Nat.two_pow_pos _) (by omega) (by omega)
      rw [cc] at er
      generalize sv (fmul .f32 1056964608 a) = s at *
      generalize rval F32 r = v at *
      clear fr cmp hr
      omega
/-- the middle of two numbers -/
theorem mid_ok {a b : Nat} (ha : Bw a) (hb : Bw b) (h : sv a ≤ sv b) : Bw (fmul .f32 1056964608 (fadd .f32 a b)) ∧ sv a ≤ sv (fmul .f32 1056964608 (fadd .f32 a b)) ∧ sv (fmul .f32 1056964608 (fadd .f32 a b)) ≤ sv b ∧
    (2 * sv (fmul .f32 1056964608 (fadd .f32 a b)) - (sv a + sv b)) * 2 ^ 23 ≤ (sv a + sv b).natAbs + 6 * 2 ^ 23 ∧ ((sv a + sv b) - 2 * sv (fmul .f32 1056964608 (fadd .f32 a b))) * 2 ^ 23 ≤ (sv a + sv b).natAbs + 6 * 2 ^ 23 := by
  have F := FM_200
  have a1 := ha.lo; have a2 := ha.hi; have b1 := hb.lo; have b2 := hb.hi
  have fr := add_fr ha.f hb.f (by omega) (by omega)
  have er := fr.err Nat.one_pos (by omega) (by omega)
  -- the sum lies between twice the one and twice the other
  have s1 : sv (fadd .f32 a b) ≤ 2 * sv b := by
    obtain ⟨r, hr, e⟩ := sv_cases hb.f
    have hl := rung_lim (r := r) (by
      generalize rval F32 r = v at *
      generalize sv b = y at *
      omega)
    obtain ⟨r', hr', e'⟩ := dbl hl
    rcases e with e | e
    · have := fr.le r' hr' (by rw [e']; generalize rval F32 r = v at *; omega)
      rw [e'] at this; rw [e]; generalize rval F32 r = v at *; omega
    · have := fr.le' r' hr' (by rw [e']; generalize rval F32 r = v at *; omega)
      rw [e'] at this; rw [e]; generalize rval F32 r = v at *; omega
  have s2 : 2 * sv a ≤ sv (fadd .f32 a b) := by
    obtain ⟨r, hr, e⟩ := sv_cases ha.f
    have hl := rung_lim (r := r) (by
      generalize rval F32 r = v at *
      generalize sv a = y at *
      omega)
    obtain ⟨r', hr', e'⟩ := dbl hl
    rcases e with e | e
    · have := fr.ge r' hr' (by rw [e']; generalize rval F32 r = v at *; omega)
      rw [e'] at this; rw [e]; generalize rval F32 r = v at *; omega
    · have := fr.ge' r' hr' (by rw [e']; generalize rval F32 r = v at *; omega)
      rw [e'] at this; rw [e]; generalize rval F32 r = v at *; omega
  obtain ⟨m1, m2, m3, m4, m5⟩ := half_err fr.fi (by omega) (by omega)
  have t1 := (m5 b hb.f).1 s1
  have t2 := (m5 a ha.f).2 s2
  generalize fadd .f32 a b = s at *
  clear fr m5
  refine ⟨⟨m1, m2, by omega, by omega⟩, t2, t1, ?_, ?_⟩
  · generalize sv (fmul .f32 1056964608 s) = m at *
    generalize sv s = S at *
    omega
  · generalize sv (fmul .f32 1056964608 s) = m at *
    generalize sv s = S at *
    omega
/-- one round -/
noncomputable def stp (T : Nat → Bool) (b : Nat × Nat) : Nat × Nat := cond (T (fmul .f32 1056964608 (fadd .f32 b.1 b.2))) (fmul .f32 1056964608 (fadd .f32 b.1 b.2), b.2) (b.1, fmul .f32 1056964608 (fadd .f32 b.1 b.2))
def shr (x : Nat) : Nat := x * (2 ^ 23 + 1) / 2 ^ 24 + 1
def shrN : Nat → Nat → Nat
  | 0, x => x
  | n + 1, x => shrN n (shr x)
theorem bis {T : Nat → Bool} {H : Int} {K : Int} (hK : 2 * H.natAbs + 6 * 2 ^ 23 ≤ K * (2 ^ 23 - 1)) : ∀ (n i : Nat) (b : Nat × Nat) (x : Nat), Bw b.1 → Bw b.2 → sv b.1 ≤ sv b.2 → sv (foldN (fun _ => stp T) n i b).2 = H → sv b.2 - sv b.1 ≤ K + x →
    Bw (foldN (fun _ => stp T) n i b).1 ∧ Bw (foldN (fun _ => stp T) n i b).2 ∧ sv b.1 ≤ sv (foldN (fun _ => stp T) n i b).1 ∧ sv (foldN (fun _ => stp T) n i b).1 ≤ H ∧ H ≤ sv b.2 ∧ H - sv (foldN (fun _ => stp T) n i b).1 ≤ K + shrN n x ∧
      ((foldN (fun _ => stp T) n i b).2 = b.2 ∨ T (foldN (fun _ => stp T) n i b).2 = false) ∧ ((foldN (fun _ => stp T) n i b).1 = b.1 ∨ T (foldN (fun _ => stp T) n i b).1 = true) := by
  intro n
  induction n with
  | zero =>
    intro i b x h1 h2 h3 h4 h5
    have e : sv b.2 = H := h4
    refine ⟨h1, h2, Int.le_refl _, ?_, ?_, ?_, .inl rfl, .inl rfl⟩
    · show sv b.1 ≤ H
      omega
    · omega
    · show H - sv b.1 ≤ K + x
      omega
  | succ n ih =>
    intro i b x h1 h2 h3 h4 h5
    obtain ⟨m1, m2, m3, m4, m5⟩ := mid_ok h1 h2 h3
    have e : foldN (fun _ => stp T) (n + 1) i b = foldN (fun _ => stp T) n (i + 1) (stp T b) := rfl
    rw [e] at h4 ⊢
    -- what is not the width
    have hw : ∀ b' : Nat × Nat, stp T b = b' → Bw b'.1 → Bw b'.2 → sv b'.1 ≤ sv b'.2 → sv b.1 ≤ sv b'.1 → sv b'.2 ≤ sv b.2 → 2 * (sv b'.2 - sv b'.1) * 2 ^ 23 ≤ (sv b.2 - sv b.1) * 2 ^ 23 + (sv b.1 + sv b.2).natAbs + 6 * 2 ^ 23 → sv b'.2 - sv b'.1 ≤ K + shr x := by
      intro b' eb g1 g2 g3 g4 g5 g6
      have bd := ih (i + 1) b' ((sv b'.2 - sv b'.1 - K).toNat) g1 g2 g3 (by rw [← eb]; exact h4) (by omega)
      have hH1 := bd.2.2.2.1
      have hH2 := bd.2.2.2.2.1
      have hH3 := bd.2.2.1
      have hs : x * (2 ^ 23 + 1) < (shr x) * 2 ^ 24 := by
        unfold shr
        have := Nat.div_add_mod (x * (2 ^ 23 + 1)) (2 ^ 24)
        have := Nat.mod_lt (x * (2 ^ 23 + 1)) (show 0 < 2 ^ 24 by decide)
        omega
      generalize shr x = y at *
      generalize sv b'.1 = l' at *
      generalize sv b'.2 = u' at *
      generalize sv b.1 = l at *
      generalize sv b.2 = u at *
      clear ih bd
      omega
    generalize hm : fmul .f32 1056964608 (fadd .f32 b.1 b.2) = m at *
    cases ht : T m with
    | true =>
      have es : stp T b = (m, b.2) := by unfold stp; rw [hm, ht]; rfl
      have w := hw (m, b.2) es m1 h2 m3 m2 (Int.le_refl _) (by show 2 * (sv b.2 - sv m) * 2 ^ 23 ≤ _; omega)
      rw [es] at h4 ⊢
      obtain ⟨c1, c2, c3, c4, c5, c6, c7, c8⟩ := ih (i + 1) (m, b.2) (shr x) m1 h2 m3 h4 w
      refine ⟨c1, c2, Int.le_trans m2 c3, c4, c5, c6, c7, ?_⟩
      rcases c8 with g | g
      · exact .inr (by rw [g]; exact ht)
      · exact .inr g
    | false =>
      have es : stp T b = (b.1, m) := by unfold stp; rw [hm, ht]; rfl
      have w := hw (b.1, m) es h1 m1 m2 (Int.le_refl _) m3 (by show 2 * (sv m - sv b.1) * 2 ^ 23 ≤ _; omega)
      rw [es] at h4 ⊢
      obtain ⟨c1, c2, c3, c4, c5, c6, c7, c8⟩ := ih (i + 1) (b.1, m) (shr x) h1 m1 m2 h4 w
      refine ⟨c1, c2, c3, c4, Int.le_trans c5 m3, c6, ?_, c8⟩
      rcases c7 with g | g
      · exact .inr (by rw [g]; exact ht)
      · exact .inr g
theorem shr40 : shrN 40 (2000 * 2 ^ 149) ≤ 2 ^ 121 := by decide +kernel
end Go.Ab

namespace Go.Ab
open Ieee
set_option maxRecDepth 100000

/-- a flow as a function of what is tried: it follows a push -/
def Gd (f : Nat → Nat) (g : Nat → Int) : Prop :=
  (∃ d : Int, ∃ r : Nat, 2 ^ 149 + 2 ^ 144 ≤ sv r ∧ -(61 * 2 ^ 149) ≤ d ∧ d ≤ 61 * 2 ^ 149 ∧ ∀ m, Bw m → Fw (d + g m) r (f m)) ∨ (∀ m, Bw m → Fi (f m) ∧ f m < 4294967296 ∧ sv (f m) = 0)
theorem Gd.fi {f : Nat → Nat} {g : Nat → Int} (h : Gd f g) {m : Nat} (hm : Bw m) : Fi (f m) ∧ f m < 4294967296 := by
  rcases h with ⟨d, r, _, _, _, h⟩ | h
  · exact ⟨(h m hm).fi, (h m hm).lt⟩
  · exact ⟨(h m hm).1, (h m hm).2.1⟩
theorem Gd.bound {f : Nat → Nat} {g : Nat → Int} (h : Gd f g) {m : Nat} (hm : Bw m) (hg : (g m).natAbs ≤ 1100 * 2 ^ 149) : ((sv (f m)).natAbs : Int) ≤ 35 * 2 ^ 149 := by
  rcases h with ⟨d, r, r1, d1, d2, h⟩ | h
  · exact (h m hm).bound (by omega) (by omega)
  · have := (h m hm).2.2
    omega
theorem Gd.close {f : Nat → Nat} {g : Nat → Int} (h : Gd f g) {m l : Nat} (hm : Bw m) (hl : Bw l) (gm : (g m).natAbs ≤ 1100 * 2 ^ 149) (gl : (g l).natAbs ≤ 1100 * 2 ^ 149) {D Δ : Int} (D0 : 0 ≤ D) (d0 : 0 ≤ Δ) (h1 : g m ≤ g l + Δ) (h2 : g l ≤ g m + Δ) (hA : DA D Δ) :
    sv (f m) ≤ sv (f l) + D + 2 ^ 137 := by
  rcases h with ⟨d, r, r1, d1, d2, h⟩ | h
  · exact flow_close (h l hl) (h m hm) r1 (by omega) (by omega) D0 d0 (by omega) (by omega) hA
  · have a := (h m hm).2.2
    have b := (h l hl).2.2
    omega
theorem Gd.far {f : Nat → Nat} {g : Nat → Int} (h : Gd f g) {m l : Nat} (hm : Bw m) (hl : Bw l) (gm : (g m).natAbs ≤ 1100 * 2 ^ 149) (gl : (g l).natAbs ≤ 1100 * 2 ^ 149) {Δ : Int} (d0 : 0 ≤ Δ) (dd : Δ ≤ 2 ^ 140) (h1 : g m ≤ g l + Δ) (h2 : g l ≤ g m + Δ)
    (hA : (74 * 2 ^ 149 ≤ g m ∧ 74 * 2 ^ 149 ≤ g l) ∨ (g m ≤ -(74 * 2 ^ 149) ∧ g l ≤ -(74 * 2 ^ 149))) : sv (f m) ≤ sv (f l) + 2 ^ 139 := by
  rcases h with ⟨d, r, r1, d1, d2, h⟩ | h
  · refine flow_far_close (h l hl) (h m hm) (by omega) (by omega) (by omega) d0 dd (by omega) (by omega) ?_
    rcases hA with ⟨a, b⟩ | ⟨a, b⟩
    · exact .inl ⟨by omega, by omega⟩
    · exact .inr ⟨by omega, by omega⟩
  · have a := (h m hm).2.2
    have b := (h l hl).2.2
    omega
/-- a sum of whole numbers -/
def sumR (f : Nat → Int) : Nat → Nat → Int
  | _, 0 => 0
  | i, k + 1 => f i + sumR f (i + 1) k
theorem sumR_le {f g : Nat → Int} {e : Int} : ∀ (k i : Nat), (∀ j, i ≤ j → j < i + k → f j ≤ g j + e) → sumR f i k ≤ sumR g i k + k * e
  | 0, _, _ => by show (0 : Int) ≤ 0 + 0 * e; omega
  | k + 1, i, h => by
    have a := sumR_le k (i + 1) (fun j h1 h2 => h j (by omega) (by omega))
    have b := h i (Nat.le_refl _) (by omega)
    show f i + sumR f (i + 1) k ≤ g i + sumR g (i + 1) k + ((k + 1 : Nat) : Int) * e
    rw [Int.natCast_add, Int.add_mul]
    generalize (k : Int) * e = z at *
    omega
theorem add_near {a b : Nat} (ha : Fi a) (hb : Fi b) (h1 : ((sv a + sv b).natAbs : Int) ≤ 400 * 2 ^ 149) : Fi (fadd .f32 a b) ∧ fadd .f32 a b < 4294967296 ∧ sv (fadd .f32 a b) ≤ sv a + sv b + 2 ^ 135 ∧ sv a + sv b ≤ sv (fadd .f32 a b) + 2 ^ 135 := by
  have F := FM_200
  have fr := add_fr ha hb (by omega) (by omega)
  have er := fr.err Nat.one_pos (by omega) (by omega)
  refine ⟨fr.fi, fr.lt, ?_⟩
  generalize sv (fadd .f32 a b) = z at *
  generalize sv a = x at *
  generalize sv b = y at *
  clear fr F
  omega
/-- a sum in single precision is the sum, nearly -/
theorem fsum {F : Nat → Nat} : ∀ (k i : Nat) (s c : Nat), (∀ j, i ≤ j → j < i + k → Fi (F j) ∧ ((sv (F j)).natAbs : Int) ≤ 36 * 2 ^ 149) → Fi s → s < 4294967296 → ((sv s).natAbs : Int) ≤ c * (37 * 2 ^ 149) → c + k ≤ 10 →
    Fi (foldN (fun j s => fadd .f32 s (F j)) k i s) ∧ foldN (fun j s => fadd .f32 s (F j)) k i s < 4294967296 ∧ sv (foldN (fun j s => fadd .f32 s (F j)) k i s) ≤ sv s + sumR (fun j => sv (F j)) i k + k * 2 ^ 135 ∧ sv s + sumR (fun j => sv (F j)) i k ≤ sv (foldN (fun j s => fadd .f32 s (F j)) k i s) + k * 2 ^ 135 := by
  intro k
  induction k with
  | zero =>
    intro i s c _ h1 h2 _ _
    refine ⟨h1, h2, ?_, ?_⟩
    · show sv s ≤ sv s + 0 + ((0 : Nat) : Int) * 2 ^ 135
      omega
    · show sv s + 0 ≤ sv s + ((0 : Nat) : Int) * 2 ^ 135
      omega
  | succ k ih =>
    intro i s c h h1 h2 h3 h4
    obtain ⟨f1, f2⟩ := h i (Nat.le_refl _) (by omega)
    obtain ⟨a1, a2, a3, a4⟩ := add_near h1 f1 (by
      generalize sv s = x at *
      generalize sv (F i) = y at *
      clear h
      omega)
    obtain ⟨r1, r2, r3, r4⟩ := ih (i + 1) (fadd .f32 s (F i)) (c + 1) (fun j q1 q2 => h j (by omega) (by omega)) a1 a2 (by
      generalize sv (fadd .f32 s (F i)) = z at *
      generalize sv s = x at *
      generalize sv (F i) = y at *
      clear h ih
      omega) (by omega)
    refine ⟨r1, r2, ?_, ?_⟩
    · show sv (foldN (fun j s => fadd .f32 s (F j)) k (i + 1) (fadd .f32 s (F i))) ≤ sv s + (sv (F i) + sumR (fun j => sv (F j)) (i + 1) k) + ((k + 1 : Nat) : Int) * 2 ^ 135
      generalize sv (foldN (fun j s => fadd .f32 s (F j)) k (i + 1) (fadd .f32 s (F i))) = q at *
      generalize sv (fadd .f32 s (F i)) = z at *
      generalize sumR (fun j => sv (F j)) (i + 1) k = t at *
      clear h ih
      omega
    · show sv s + (sv (F i) + sumR (fun j => sv (F j)) (i + 1) k) ≤ sv (foldN (fun j s => fadd .f32 s (F j)) k (i + 1) (fadd .f32 s (F i))) + ((k + 1 : Nat) : Int) * 2 ^ 135
      generalize sv (foldN (fun j s => fadd .f32 s (F j)) k (i + 1) (fadd .f32 s (F i))) = q at *
      generalize sv (fadd .f32 s (F i)) = z at *
      generalize sumR (fun j => sv (F j)) (i + 1) k = t at *
      clear h ih
      omega
theorem wm1000 : sv 3296329728 = -(1000 * 2 ^ 149) := by decide +kernel
theorem w1000 : sv 1148846080 = 1000 * 2 ^ 149 := by decide +kernel
theorem bw0 : Bw 3296329728 ∧ Bw 1148846080 := ⟨⟨by unfold Fi; decide, by decide, by rw [wm1000]; omega, by rw [wm1000]; omega⟩, ⟨by unfold Fi; decide, by decide, by rw [w1000]; omega, by rw [w1000]; omega⟩⟩
theorem DAb : DA (7 * 2 ^ 139) (22 * 2 ^ 129) := by unfold DA; decide
theorem DAt : DA (10 * 2 ^ 139) (44 * 2 ^ 129) := by unfold DA; decide
set_option maxHeartbeats 2000000 in
/-- where branches join -/
theorem join {b w h : Nat} {B : Nat → Nat → Nat} {T : Nat → Nat} {S : Nat → Nat} (hb : b ≤ 5) (wf : Fi w) (w1 : -(5 * 2 ^ 149) ≤ sv w) (w2 : sv w ≤ 5 * 2 ^ 149)
    (hB : ∀ j, j < b → Gd (B j) (fun m => -sv m)) (hT : Gd T (fun m => sv (fsub .f32 m w)))
    (hS : ∀ m, Bw m → Fi (S m) ∧ S m < 4294967296 ∧ sv (S m) ≤ sumR (fun j => sv (B j m)) 0 b + 2 ^ 138 ∧ sumR (fun j => sv (B j m)) 0 b ≤ sv (S m) + 2 ^ 138)
    (he : (foldN (fun _ => stp fun m => fgt .f32 (S m) (T m)) 40 0 (3296329728, 1148846080)).2 = h) (h1 : sv h < 999 * 2 ^ 149) (h2 : -(999 * 2 ^ 149) < sv h) :
    Bw h ∧ sumR (fun j => sv (B j h)) 0 b ≤ sv (T h) + 2 ^ 138 ∧ sv (T h) ≤ sumR (fun j => sv (B j h)) 0 b + 47 * 2 ^ 139 := by
  obtain ⟨K, hK, hK2⟩ : ∃ K : Int, 2 * (sv h).natAbs + 6 * 2 ^ 23 ≤ K * (2 ^ 23 - 1) ∧ K * (2 ^ 23 - 1) ≤ 2 * (sv h).natAbs + 7 * 2 ^ 23 :=
    ⟨(2 * ((sv h).natAbs : Int) + 6 * 2 ^ 23) / (2 ^ 23 - 1) + 1, by omega, by omega⟩
  have bs := bis (T := fun m => fgt .f32 (S m) (T m)) (H := sv h) hK 40 0 (3296329728, 1148846080) (2000 * 2 ^ 149) bw0.1 bw0.2 (by show sv 3296329728 ≤ sv 1148846080; rw [wm1000, w1000]; omega) (by rw [he]) (by
    show sv 1148846080 - sv 3296329728 ≤ K + _
    rw [wm1000, w1000]; omega)
  rw [he] at bs
  have s40 := shr40
  generalize shrN 40 (2000 * 2 ^ 149) = x40 at *
  generalize (foldN (fun _ => stp fun m => fgt .f32 (S m) (T m)) 40 0 (3296329728, 1148846080)).1 = l at bs
  obtain ⟨bl, bh, _, q1, _, q2, q3, q4⟩ := bs
  have th : fgt .f32 (S h) (T h) = false := by
    rcases q3 with g | g
    · rw [g, w1000] at h1; omega
    · exact g
  have tl : fgt .f32 (S l) (T l) = true := by
    rcases q4 with g | g
    · exfalso
      have g' : l = 3296329728 := g
      rw [g', wm1000] at q2
      clear hS hB hT th q3
      omega
    · exact g
  obtain ⟨sh1, sh2, sh3, sh4⟩ := hS h bh
  obtain ⟨sl1, sl2, sl3, sl4⟩ := hS l bl
  have t1 := hT.fi bh
  have t2 := hT.fi bl
  rw [fgt_sv sh1.nn t1.1.nn sh2 t1.2, decide_eq_false_iff_not] at th
  rw [fgt_sv sl1.nn t2.1.nn sl2 t2.2, decide_eq_true_eq] at tl
  have bh1 := bh.lo; have bh2 := bh.hi; have bl1 := bl.lo; have bl2 := bl.hi
  -- pushes of the trunk
  have pw : ∀ m, Bw m → sv (fsub .f32 m w) * 2 ^ 23 ≤ (sv m - sv w) * 2 ^ 23 + 1006 * 2 ^ 149 ∧ (sv m - sv w) * 2 ^ 23 ≤ sv (fsub .f32 m w) * 2 ^ 23 + 1006 * 2 ^ 149 ∧ ((sv m - sv w).natAbs ≤ 86 * 2 ^ 149 → sv (fsub .f32 m w) * 2 ^ 23 ≤ (sv m - sv w) * 2 ^ 23 + 87 * 2 ^ 149 ∧ (sv m - sv w) * 2 ^ 23 ≤ sv (fsub .f32 m w) * 2 ^ 23 + 87 * 2 ^ 149) := by
    intro m hm
    have F := FM_200
    have m1 := hm.lo; have m2 := hm.hi
    have fr := sub_fr hm.f wf (by omega) (by omega)
    have er := fr.err Nat.one_pos (by omega) (by omega)
    generalize sv (fsub .f32 m w) = z at *
    generalize sv m = y at *
    generalize sv w = v at *
    clear fr hS hB hT
    omega
  have ph := pw h bh
  have pl := pw l bl
  have gmh : (sv (fsub .f32 h w)).natAbs ≤ 1100 * 2 ^ 149 := by
    generalize sv (fsub .f32 h w) = z at *
    clear hS hB hT pl
    omega
  have gml : (sv (fsub .f32 l w)).natAbs ≤ 1100 * 2 ^ 149 := by
    generalize sv (fsub .f32 l w) = z at *
    clear hS hB hT ph
    omega
  have hw : sv h - sv l ≤ 2 ^ 138 := by
    clear hS hB hT ph pl
    omega
  have fin : ∀ eT eB : Int, 0 ≤ eB → sv (T h) ≤ sv (T l) + eT → (∀ j, j < b → sv (B j l) ≤ sv (B j h) + eB) → eT + 5 * eB + 2 ^ 138 ≤ 47 * 2 ^ 139 → Bw h ∧ sumR (fun j => sv (B j h)) 0 b ≤ sv (T h) + 2 ^ 138 ∧ sv (T h) ≤ sumR (fun j => sv (B j h)) 0 b + 47 * 2 ^ 139 := by
    intro eT eB e0 c1 c2 c3
    have c4 := sumR_le (f := fun j => sv (B j l)) (g := fun j => sv (B j h)) (e := eB) b 0 (fun j _ hj => c2 j (by omega))
    have c5 : (b : Int) * eB ≤ 5 * eB := Int.mul_le_mul_of_nonneg_right (by omega) e0
    generalize (b : Int) * eB = z at *
    generalize sumR (fun j => sv (B j l)) 0 b = y at *
    generalize sumR (fun j => sv (B j h)) 0 b = u at *
    refine ⟨bh, by omega, by omega⟩
  by_cases small : (sv h).natAbs ≤ 80 * 2 ^ 149
  · have dw : sv h - sv l ≤ 22 * 2 ^ 129 := by
      clear hS hB hT ph pl fin
      omega
    have dt : sv (fsub .f32 h w) ≤ sv (fsub .f32 l w) + 44 * 2 ^ 129 ∧ sv (fsub .f32 l w) ≤ sv (fsub .f32 h w) + 44 * 2 ^ 129 := by
      have a := ph.2.2 (by omega)
      have c := pl.2.2 (by omega)
      generalize sv (fsub .f32 h w) = z at *
      generalize sv (fsub .f32 l w) = y at *
      clear hS hB hT fin ph pl
      omega
    refine fin (10 * 2 ^ 139 + 2 ^ 137) (7 * 2 ^ 139 + 2 ^ 137) (by decide) ?_ ?_ (by decide)
    · have := hT.close bh bl gmh gml (D := 10 * 2 ^ 139) (Δ := 44 * 2 ^ 129) (by decide) (by decide) dt.1 dt.2 DAt
      omega
    · intro j hj
      have := (hB j hj).close bl bh (by omega) (by omega) (D := 7 * 2 ^ 139) (Δ := 22 * 2 ^ 129) (by decide) (by decide) (by omega) (by omega) DAb
      omega
  · have dt : sv (fsub .f32 h w) ≤ sv (fsub .f32 l w) + 2 ^ 140 ∧ sv (fsub .f32 l w) ≤ sv (fsub .f32 h w) + 2 ^ 140 := by
      generalize sv (fsub .f32 h w) = z at *
      generalize sv (fsub .f32 l w) = y at *
      clear hS hB hT fin
      omega
    have ft : (74 * 2 ^ 149 ≤ sv (fsub .f32 h w) ∧ 74 * 2 ^ 149 ≤ sv (fsub .f32 l w)) ∨ (sv (fsub .f32 h w) ≤ -(74 * 2 ^ 149) ∧ sv (fsub .f32 l w) ≤ -(74 * 2 ^ 149)) := by
      generalize sv (fsub .f32 h w) = z at *
      generalize sv (fsub .f32 l w) = y at *
      clear hS hB hT fin
      omega
    refine fin (2 ^ 139) (2 ^ 139) (by decide) ?_ ?_ (by decide)
    · exact hT.far bh bl gmh gml (Δ := 2 ^ 140) (by decide) (by decide) dt.1 dt.2 ft
    · intro j hj
      refine (hB j hj).far bl bh (by omega) (by omega) (Δ := 2 ^ 140) (by decide) (by decide) (by omega) (by omega) ?_
      clear hS hB hT fin ph pl ft dt
      omega
end Go.Ab
