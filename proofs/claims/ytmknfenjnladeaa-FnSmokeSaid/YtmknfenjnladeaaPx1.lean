/- Whole numbers of a small unit as float32: sums, differences, products and quotients that are exact. -/
import Derived.Test.YtmknfenjnladeaaA33
namespace Go.Ab
open Ieee
theorem rung_ex (k : Nat) (h : k < 16777216) : ∃ r,r < 2139095040 ∧ rval F32 r = k * 2 ^ 135 := by
  rcases Nat.eq_zero_or_pos k with h0 | h0
  · subst h0; exact ⟨0,by decide,by rw [rval_zero,Nat.zero_mul]⟩
  · have h1 : 2 ^ k.log2 ≤ k := Nat.log2_self_le (by omega)
    have h2 : k < 2 ^ (k.log2 + 1) := Nat.lt_log2_self
    have h3 : k.log2 < 24 := (Nat.pow_lt_pow_iff_right (by decide : 1 < 2)).1 (Nat.lt_of_le_of_lt h1 h)
    generalize k.log2 = e at *
    have m1 : 8388608 ≤ k * 2 ^ (23 - e) := by
      have := Nat.mul_le_mul_right (2 ^ (23 - e)) h1
      rw [← Nat.pow_add,show e + (23 - e) = 23 by omega] at this
      exact this
    have m2 : k * 2 ^ (23 - e) < 16777216 := by
      have := Nat.mul_lt_mul_of_pos_right h2 (Nat.two_pow_pos (23 - e))
      rw [← Nat.pow_add,show e + 1 + (23 - e) = 24 by omega] at this
      exact this
    have m3 : k * 2 ^ (23 - e) * 2 ^ (112 + e) = k * 2 ^ 135 := by
      rw [Nat.mul_assoc,← Nat.pow_add,show 23 - e + (112 + e) = 135 by omega]
    generalize k * 2 ^ (23 - e) = m at *
    refine ⟨(112 + e) * 8388608 + m,by omega,?_⟩
    unfold rval
    rw [F_bin,show (2 : Nat) ^ 23 = 8388608 from rfl,if_neg (by omega),show ((112 + e) * 8388608 + m) / 8388608 - 1 = 112 + e by omega,show 8388608 + ((112 + e) * 8388608 + m) % 8388608 = m by omega,m3]
theorem FM_ge : (16777216 : Int) * 2 ^ 135 ≤ FM := by decide +kernel
structure X (n : Int) (a : Nat) : Prop where
  fi : Fi a
  lt : a < 4294967296
  sv : sv a = n * 2 ^ 135
theorem X.of {a : Nat} {n k : Int} {d : Nat} (h : Fr a n d) (hk : n = k * 2 ^ 135 * d) (b1 : -16777216 < k) (b2 : k < 16777216) : X k a := by
  refine ⟨h.fi,h.lt,?_⟩
  by_cases g : 0 ≤ k
  · obtain ⟨r,r1,r2⟩ := rung_ex k.toNat (by omega)
    have e : ((rval F32 r : Nat) : Int) = k * 2 ^ 135 := by rw [r2,Int.natCast_mul,Int.toNat_of_nonneg g]; rfl
    have p1 := h.le r r1 (by rw [e,hk]; exact Int.le_refl _)
    have p2 := h.ge r r1 (by rw [e,hk]; exact Int.le_refl _)
    rw [e] at p1 p2
    exact Int.le_antisymm p1 p2
  · obtain ⟨r,r1,r2⟩ := rung_ex (-k).toNat (by omega)
    have e : ((rval F32 r : Nat) : Int) = -(k * 2 ^ 135) := by rw [r2,Int.natCast_mul,Int.toNat_of_nonneg (by omega),Int.neg_mul]; rfl
    have p1 := h.le' r r1 (by rw [e,hk,Int.neg_mul,Int.neg_neg]; exact Int.le_refl _)
    have p2 := h.ge' r r1 (by rw [e,hk,Int.neg_mul,Int.neg_neg]; exact Int.le_refl _)
    rw [e,Int.neg_neg] at p1 p2
    exact Int.le_antisymm p1 p2
theorem un_le {n m : Int} : n * 2 ^ 135 ≤ m * 2 ^ 135 ↔ n ≤ m := ⟨fun h => Int.le_of_mul_le_mul_right h (by decide),fun h => Int.mul_le_mul_of_nonneg_right h (by decide)⟩
theorem un_up {k : Int} (h : k < 16777216) : k * 2 ^ 135 ≤ FM := Int.le_trans (un_le.2 (Int.le_of_lt h)) FM_ge
theorem un_dn {k : Int} (h : -16777216 < k) : -FM ≤ k * 2 ^ 135 := by
  have := un_up (k := -k) (by omega)
  rw [Int.neg_mul] at this
  have h2 := Int.neg_le_neg this
  rwa [Int.neg_neg] at h2
theorem X.add {n m : Int} {a b : Nat} (ha : X n a) (hb : X m b) (b1 : -16777216 < n + m) (b2 : n + m < 16777216) : X (n + m) (fadd .f32 a b) := by
  have e : Go.Ab.sv a + Go.Ab.sv b = (n + m) * 2 ^ 135 := by rw [ha.sv,hb.sv,Int.add_mul]
  have f := add_fr ha.fi hb.fi (by rw [e]; exact un_up b2) (by rw [e]; exact un_dn b1)
  exact .of f (by rw [e]; exact (Int.mul_one _).symm) b1 b2
theorem X.sub {n m : Int} {a b : Nat} (ha : X n a) (hb : X m b) (b1 : -16777216 < n - m) (b2 : n - m < 16777216) : X (n - m) (fsub .f32 a b) := by
  have e : Go.Ab.sv a - Go.Ab.sv b = (n - m) * 2 ^ 135 := by rw [ha.sv,hb.sv,Int.sub_mul]
  have f := sub_fr ha.fi hb.fi (by rw [e]; exact un_up b2) (by rw [e]; exact un_dn b1)
  exact .of f (by rw [e]; exact (Int.mul_one _).symm) b1 b2
theorem X.mul {n m k : Int} {a b : Nat} (ha : X n a) (hb : X m b) (hk : n * m = k * 2 ^ 14) (b1 : -16777216 < k) (b2 : k < 16777216) : X k (fmul .f32 a b) := by
  have e : Go.Ab.sv a * Go.Ab.sv b = k * 2 ^ 135 * 2 ^ 149 := by
    rw [ha.sv,hb.sv,show n * 2 ^ 135 * (m * 2 ^ 135) = n * m * (2 ^ 135 * 2 ^ 135) by ac_rfl,hk,show (k * 2 ^ 14 * (2 ^ 135 * 2 ^ 135) : Int) = k * (2 ^ 14 * (2 ^ 135 * 2 ^ 135)) by ac_rfl,Int.mul_assoc]
    rfl
  have f := mul_fr ha.fi hb.fi (by rw [e]; exact Int.mul_le_mul_of_nonneg_right (un_up b2) (by decide)) (by rw [e,← Int.neg_mul]; exact Int.mul_le_mul_of_nonneg_right (un_dn b1) (by decide))
  exact .of f (by rw [e]; rfl) b1 b2
end Go.Ab
