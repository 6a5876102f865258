/- Float32: how far what is rounded lies from what it was. -/
import Derived.Test.YtmknfenjnladeaaA29
import Derived.Test.YtmknfenjnladeaaPx1
namespace Go.Ab
open Ieee

theorem rval_gap (r : Nat) : rval F32 (r + 1) * 2 ^ 23 ≤ rval F32 r * (2 ^ 23 + 1) + 2 ^ 23 := by
  have hB : F32.binade = 2 ^ 23 := by decide +kernel
  unfold rval
  rw [hB]
  by_cases h1 : r + 1 < 2 ^ 23
  · rw [if_pos h1,if_pos (by omega)]; omega
  · rw [if_neg h1]
    by_cases h2 : r < 2 ^ 23
    · rw [if_pos h2]
      have e : r = 2 ^ 23 - 1 := by omega
      subst e
      decide
    · rw [if_neg h2]
      by_cases h3 : r % 2 ^ 23 + 1 < 2 ^ 23
      · rw [show (r + 1) % 2 ^ 23 = r % 2 ^ 23 + 1 by omega,show (r + 1) / 2 ^ 23 = r / 2 ^ 23 by omega]
        generalize r / 2 ^ 23 - 1 = e
        generalize r % 2 ^ 23 = m
        have k : 2 ^ 23 * 2 ^ e ≤ (2 ^ 23 + m) * 2 ^ e := Nat.mul_le_mul_right _ (by omega)
        generalize 2 ^ e = z at *
        grind
      · rw [show (r + 1) % 2 ^ 23 = 0 by omega,show (r + 1) / 2 ^ 23 - 1 = (r / 2 ^ 23 - 1) + 1 by omega]
        have k : r % 2 ^ 23 = 2 ^ 23 - 1 := by omega
        rw [k]
        generalize r / 2 ^ 23 - 1 = e
        have k2 : 2 ^ (e + 1) = 2 ^ e * 2 := Nat.pow_succ 2 e
        rw [k2]
        generalize 2 ^ e = z at *
        omega

theorem Fr.nonneg {a : Nat} {n : Int} {d : Nat} (h : Fr a n d) (hn : 0 ≤ n) : 0 ≤ sv a := by
  have := h.ge 0 (by decide) (by rw [show rval F32 0 = 0 from rval_zero F32]; simpa using hn)
  rw [show rval F32 0 = 0 from rval_zero F32] at this
  exact this
theorem sv_mod {a : Nat} (h : 0 ≤ sv a) : sv a = ((rval F32 (a % 2147483648) : Nat) : Int) := by
  have := sv_abs a
  omega
theorem Fr.neg {a : Nat} {n : Int} {d : Nat} (h : Fr a n d) : Fr (fneg .f32 a) (-n) d := by
  have e := sv_fneg h.lt
  refine ⟨h.fi.neg h.lt,?_,?_,?_,?_,?_⟩
  · by_cases h1 : a < 2147483648
    · rw [neg_pos h1]; omega
    · obtain ⟨b,hb⟩ : ∃ b,a = 2147483648 + b := ⟨a - 2147483648,by omega⟩
      have := h.lt
      subst hb
      rw [neg_neg (by omega)]; omega
  · intro r hr g; rw [e]
    have := h.ge' r hr (by omega); omega
  · intro r hr g; rw [e]
    have := h.le' r hr (by omega); omega
  · intro r hr g; rw [e]
    have := h.ge r hr (by omega); omega
  · intro r hr g; rw [e]
    have := h.le r hr (by omega); omega

theorem Fr.up {a : Nat} {n : Int} {d : Nat} (h : Fr a n d) (hn : 0 ≤ n) : sv a * d * 2 ^ 23 ≤ n * (2 ^ 23 + 1) + d * 2 ^ 23 := by
  have hp := h.nonneg hn
  rw [sv_mod hp]
  have hf : a % 2147483648 < 2139095040 := h.fi
  have e := sv_mod hp
  generalize a % 2147483648 = q at *
  cases q with
  | zero =>
    rw [show rval F32 0 = 0 from rval_zero F32]
    have : (0 : Int) ≤ n * (2 ^ 23 + 1) := Int.mul_nonneg hn (by decide)
    have : (0 : Int) ≤ (d : Int) * 2 ^ 23 := Int.mul_nonneg (by omega) (by decide)
    omega
  | succ s =>
    have k : ((rval F32 s : Nat) : Int) * d < n := by
      refine Int.not_le.1 fun g => ?_
      have g2 := h.le s (by omega) g
      have := rval_lt_succ F32 s
      omega
    have g := rval_gap s
    have g2 : ((rval F32 (s + 1) : Nat) : Int) * 2 ^ 23 ≤ ((rval F32 s : Nat) : Int) * (2 ^ 23 + 1) + 2 ^ 23 := by
      have := (Int.ofNat_le (m := rval F32 (s + 1) * 2 ^ 23)).2 g
      simpa [Int.natCast_mul,Int.natCast_add] using this
    have g3 := Int.mul_le_mul_of_nonneg_right g2 (show (0 : Int) ≤ d by omega)
    generalize ((rval F32 (s + 1) : Nat) : Int) = A at *
    generalize ((rval F32 s : Nat) : Int) = B at *
    grind
theorem Fr.dn {a : Nat} {n : Int} {d : Nat} (h : Fr a n d) (hn : 0 ≤ n) (hm : n ≤ FM * d) : n * 2 ^ 23 ≤ sv a * d * (2 ^ 23 + 1) + d * 2 ^ 23 := by
  have hp := h.nonneg hn
  have hf : a % 2147483648 < 2139095040 := h.fi
  have e := sv_mod hp
  rw [e]
  generalize a % 2147483648 = q at *
  have d0 : (0 : Int) ≤ d := by omega
  by_cases hq : q + 1 < 2139095040
  · have k : n < ((rval F32 (q + 1) : Nat) : Int) * d := by
      refine Int.not_le.1 fun g => ?_
      have g2 := h.ge (q + 1) hq g
      have := rval_lt_succ F32 q
      omega
    have g := rval_gap q
    have g2 : ((rval F32 (q + 1) : Nat) : Int) * 2 ^ 23 ≤ ((rval F32 q : Nat) : Int) * (2 ^ 23 + 1) + 2 ^ 23 := by
      have := (Int.ofNat_le (m := rval F32 (q + 1) * 2 ^ 23)).2 g
      simpa [Int.natCast_mul,Int.natCast_add] using this
    have g3 := Int.mul_le_mul_of_nonneg_right g2 d0
    generalize ((rval F32 (q + 1) : Nat) : Int) = A at *
    generalize ((rval F32 q : Nat) : Int) = B at *
    grind
  · have : q = 2139095039 := by omega
    subst this
    have e2 : ((rval F32 2139095039 : Nat) : Int) = FM := by decide +kernel
    rw [e2]
    have : (0 : Int) ≤ FM * d := by omega
    generalize FM * (d : Int) = z at *
    omega
theorem Fr.mono {a b : Nat} {n1 n2 : Int} {d1 d2 : Nat} (h1 : Fr a n1 d1) (h2 : Fr b n2 d2) (p1 : 0 ≤ n1) (p2 : 0 ≤ n2) (hd : 0 < d1)
    (hg : n1 * d2 * (2 ^ 23 + 1) + (d1 : Int) * d2 * 2 ^ 23 ≤ n2 * d1 * 2 ^ 23) (hd2 : 0 < d2) : sv a ≤ sv b := by
  have e1 := sv_mod (h1.nonneg p1)
  have e2 := sv_mod (h2.nonneg p2)
  have f1 : a % 2147483648 < 2139095040 := h1.fi
  have f2 : b % 2147483648 < 2139095040 := h2.fi
  rw [e1,e2]
  generalize a % 2147483648 = r at *
  generalize b % 2147483648 = s at *
  refine Int.not_lt.1 fun g => ?_
  have hsr : s < r := by
    refine Nat.lt_of_not_le fun g2 => ?_
    have := rv_le g2
    omega
  have k1 : ((rval F32 s : Nat) : Int) * d1 < n1 := by
    refine Int.not_le.1 fun g2 => ?_
    have := h1.le s f2 g2
    omega
  have k2 : n2 < ((rval F32 (s + 1) : Nat) : Int) * d2 := by
    refine Int.not_le.1 fun g2 => ?_
    have := h2.ge (s + 1) (by omega) g2
    have := rval_lt_succ F32 s
    omega
  have q := rval_gap s
  have q2 : ((rval F32 (s + 1) : Nat) : Int) * 2 ^ 23 ≤ ((rval F32 s : Nat) : Int) * (2 ^ 23 + 1) + 2 ^ 23 := by
    have := (Int.ofNat_le (m := rval F32 (s + 1) * 2 ^ 23)).2 q
    simpa [Int.natCast_mul,Int.natCast_add] using this
  generalize ((rval F32 (s + 1) : Nat) : Int) = A at *
  generalize ((rval F32 s : Nat) : Int) = B at *
  have u1 := Int.mul_lt_mul_of_pos_right k2 (show (0 : Int) < d1 by omega)
  have u2 := Int.mul_le_mul_of_nonneg_right q2 (Int.mul_nonneg (show (0 : Int) ≤ d2 by omega) (show (0 : Int) ≤ d1 by omega))
  have u3 := Int.mul_lt_mul_of_pos_right k1 (show (0 : Int) < d2 by omega)
  generalize (d1 : Int) = D at *
  generalize (d2 : Int) = E at *
  grind
end Go.Ab

namespace Go.Ab
open Ieee
set_option maxRecDepth 100000

theorem Fr.err {a : Nat} {n : Int} {d : Nat} (h : Fr a n d) (hd : 0 < d) (h1 : n ≤ FM * d) (h2 : -(FM * d) ≤ n) :
    (sv a * d - n) * 2 ^ 23 ≤ (n.natAbs : Int) + d * 2 ^ 23 ∧ (n - sv a * d) * 2 ^ 23 ≤ (n.natAbs : Int) + d * 2 ^ 23 := by
  by_cases hn : 0 ≤ n
  · have u := h.up hn
    have l := h.dn hn h1
    have e : (n.natAbs : Int) = n := Int.natAbs_of_nonneg hn
    rw [e]
    generalize sv a * (d : Int) = z at *
    have : (0 : Int) < d := by omega
    generalize (d : Int) = D at *
    omega
  · have h' := h.neg
    have s := sv_fneg h.lt
    have u := h'.up (show 0 ≤ -n by omega)
    have l := h'.dn (show 0 ≤ -n by omega) (by omega)
    rw [s] at u l
    have e : (n.natAbs : Int) = -n := by omega
    rw [e]
    have q : -sv a * (d : Int) = -(sv a * d) := Int.neg_mul _ _
    rw [q] at u l
    generalize sv a * (d : Int) = z at *
    have : (0 : Int) < d := by omega
    generalize (d : Int) = D at *
    omega

theorem sq_a {A B : Nat} (g : A * 2 ^ 23 ≤ B * (2 ^ 23 + 1) + 2 ^ 23) : A * A * 70368744177664 ≤ B * B * 70368760954881 + B * (140737505132544) + 70368744177664 := by
  have g2 := Nat.mul_le_mul g g
  have e1 : A * 2 ^ 23 * (A * 2 ^ 23) = A * A * 70368744177664 := by grind
  have e2 : (B * (2 ^ 23 + 1) + 2 ^ 23) * (B * (2 ^ 23 + 1) + 2 ^ 23) = B * B * 70368760954881 + B * (140737505132544) + 70368744177664 := by grind
  rw [e1,e2] at g2
  exact g2
theorem sq_up {A B Z : Nat} (g : A * 2 ^ 23 ≤ B * (2 ^ 23 + 1) + 2 ^ 23) (g0 : B ≤ A) (k : B * B ≤ Z) : A * A * 70368744177664 ≤ Z * 70368760954881 + A * 281474976710656 + 70368744177664 :=
  Nat.le_trans (sq_a g) (Nat.add_le_add_right (Nat.add_le_add (Nat.mul_le_mul_right _ k) (Nat.mul_le_mul g0 (by decide))) _)
theorem sq_dn {A B Z : Nat} (g : A * 2 ^ 23 ≤ B * (2 ^ 23 + 1) + 2 ^ 23) (k : Z ≤ A * A) : Z * 70368744177664 ≤ B * B * 70368760954881 + B * 281474976710656 + 70368744177664 :=
  Nat.le_trans (Nat.mul_le_mul_right _ k) (Nat.le_trans (sq_a g) (Nat.add_le_add_right (Nat.add_le_add_left (Nat.mul_le_mul_left _ (by decide)) _) _))
noncomputable def rt (x : Nat) : Nat := narrow (fsqrt .f64 (widen x))
theorem rt_ok {x : Nat} (hx : x < 2139095040) : narrowOk (fsqrt .f64 (widen x)) = true ∧ rt x < 2139095040 := by
  obtain ⟨q,h1,h2,h3,_⟩ := root_fr hx
  exact ⟨h2,by unfold rt; rw [h3]; exact h1⟩
theorem rt_spec {x : Nat} (hx : x < 2139095040) : ∀ r,r < 2139095040 → (rval F32 x * 2 ^ 149 ≤ rval F32 r * rval F32 r → rt x ≤ r) ∧ (rval F32 r * rval F32 r ≤ rval F32 x * 2 ^ 149 → r ≤ rt x) := by
  obtain ⟨q,h1,h2,h3,h4⟩ := root_fr hx
  unfold rt
  rw [h3]
  exact h4
theorem rv_sq {x : Nat} (hx : x < 2139095040) : rval F32 2139095039 * rval F32 2139095039 > rval F32 x * 2 ^ 149 := by
  have h := rv_le (show x ≤ 2139095039 by omega)
  have k : rval F32 2139095039 * 2 ^ 149 < rval F32 2139095039 * rval F32 2139095039 := by decide +kernel
  exact Nat.lt_of_le_of_lt (Nat.mul_le_mul_right _ h) k
theorem rt_up {x : Nat} (hx : x < 2139095040) : rval F32 (rt x) * rval F32 (rt x) * 70368744177664 ≤ rval F32 x * 2 ^ 149 * 70368760954881 + rval F32 (rt x) * 281474976710656 + 70368744177664 := by
  have sp := rt_spec hx
  have hq := (rt_ok hx).2
  generalize rt x = q at *
  cases q with
  | zero => rw [show rval F32 0 = 0 from rval_zero F32]; omega
  | succ s =>
    have k : rval F32 s * rval F32 s < rval F32 x * 2 ^ 149 := by
      refine Nat.lt_of_not_le fun g => ?_
      have := (sp s (by omega)).1 g
      omega
    have g := rval_gap s
    have g0 := rval_lt_succ F32 s
    exact sq_up g (Nat.le_of_lt g0) (Nat.le_of_lt k)
theorem rt_dn {x : Nat} (hx : x < 2139095040) : rval F32 x * 2 ^ 149 * 70368744177664 ≤ rval F32 (rt x) * rval F32 (rt x) * 70368760954881 + rval F32 (rt x) * 281474976710656 + 70368744177664 := by
  have sp := rt_spec hx
  have hq := (rt_ok hx).2
  have big := rv_sq hx
  generalize rt x = q at *
  by_cases h1 : q + 1 < 2139095040
  · have k : rval F32 x * 2 ^ 149 < rval F32 (q + 1) * rval F32 (q + 1) := by
      refine Nat.lt_of_not_le fun g => ?_
      have := (sp (q + 1) h1).2 g
      omega
    have g := rval_gap q
    have g0 := rval_lt_succ F32 q
    exact sq_dn g (Nat.le_of_lt k)
  · have : q = 2139095039 := by omega
    subst this
    have k : rval F32 x * 2 ^ 149 * 70368744177664 ≤ rval F32 2139095039 * rval F32 2139095039 * 70368760954881 := Nat.mul_le_mul (Nat.le_of_lt big) (by decide)
    exact Nat.le_trans k (Nat.le_trans (Nat.le_add_right _ _) (Nat.le_add_right _ _))
end Go.Ab
