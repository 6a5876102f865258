/- Float32: what is a number; lower bounds; how words stand to each other. -/
import Derived.Test.YtmknfenjnladeaaA27
namespace Go.Ab
open Ieee

/-! ### comparisons -/
theorem nan_read {k : FloatKind} {a : Nat} (h : isN k a = true) : ∃ s t, k.format.read a = .nan s t := by
  unfold isN at h
  cases e : k.format.read a with
  | nan s t => exact ⟨s, t, rfl⟩
  | number s m i => rw [e] at h; cases h
  | infinity s => rw [e] at h; cases h
theorem order_nan_l {k : FloatKind} {a : Nat} (h : isN k a = true) (b : Nat) : k.format.order a b = none := by
  obtain ⟨s, t, e⟩ := nan_read h
  unfold Format.order
  rw [e]; cases k.format.read b <;> rfl
theorem order_nan_r {k : FloatKind} {b : Nat} (h : isN k b = true) (a : Nat) : k.format.order a b = none := by
  obtain ⟨s, t, e⟩ := nan_read h
  unfold Format.order
  rw [e]; cases k.format.read a <;> rfl
theorem fgt_flt (k : FloatKind) (a b : Nat) : fgt k a b = flt k b a := by
  cases ha : isN k a with
  | true => unfold fgt flt; rw [order_nan_l ha, order_nan_r ha]; rfl
  | false =>
    cases hb : isN k b with
    | true => unfold fgt flt; rw [order_nan_l hb, order_nan_r hb]; rfl
    | false => rw [fgt_key k a b ha hb, flt_key k b a hb ha]
/-- a number or an infinity -/
def Nn (a : Nat) : Prop := a % 2147483648 ≤ 2139095040
/-- a number -/
def Fi (a : Nat) : Prop := a % 2147483648 < 2139095040
theorem Fi.nn {a : Nat} (h : Fi a) : Nn a := Nat.le_of_lt h
theorem nn_isN {a : Nat} : isN .f32 a = false ↔ Nn a := by
  rw [isN32]; unfold Nn; rw [decide_eq_false_iff_not]; omega
theorem flt_of {a b : Nat} (ha : Nn a) (hb : Nn b) (a2 : a < 4294967296) (b2 : b < 4294967296) : flt .f32 a b = decide ((if 2147483648 ≤ a then 2147483648 - (a : Int) else a) < (if 2147483648 ≤ b then 2147483648 - (b : Int) else b)) := by
  rw [flt_key .f32 a b (nn_isN.2 ha) (nn_isN.2 hb), key32 a a2, key32 b b2]
theorem feq_of {a b : Nat} (ha : Nn a) (hb : Nn b) (a2 : a < 4294967296) (b2 : b < 4294967296) : feq .f32 a b = decide ((if 2147483648 ≤ a then 2147483648 - (a : Int) else a) = (if 2147483648 ≤ b then 2147483648 - (b : Int) else b)) := by
  rw [feq_key .f32 a b (nn_isN.2 ha) (nn_isN.2 hb), key32 a a2, key32 b b2]
/-! ### what is calculated is a number -/
/-! ### lower bounds -/
theorem cut_even_ge (s : Bool) {n d N : Nat} (h : N * 2 ^ d ≤ n) : N ≤ Toward.even.cut s n d := by
  unfold Toward.cut
  simp only [Nat.one_shiftLeft]
  by_cases hd : d ≤ n.log2 + 2
  · rw [Nat.min_eq_left hd]
    exact Nat.le_trans ((Nat.le_div_iff_mul_le (Nat.two_pow_pos _)).2 h) (Nat.le_add_right _ _)
  · have hlt : n < 2 ^ (n.log2 + 1) := Nat.lt_log2_self
    have : N = 0 := by
      refine Nat.eq_zero_of_not_pos fun hp => ?_
      have h1 : 2 ^ (n.log2 + 1) ≤ 2 ^ d := Nat.pow_le_pow_right (by decide) (by omega)
      have h2 : 1 * 2 ^ d ≤ N * 2 ^ d := Nat.mul_le_mul_right _ hp
      omega
    rw [this]; exact Nat.zero_le _
theorem nearest_ge (f : Format) (s : Bool) (m : Nat) (p : Int) (r : Nat) (hr : r ≤ f.infRung) (h : rval f r * 2 ^ (f.leastPlace - p).toNat ≤ m * 2 ^ (p - f.leastPlace).toNat) :
    ∃ q, r ≤ q ∧ f.nearest s m p = f.word s q := by
  have hb : 0 < f.binade := Nat.two_pow_pos _
  unfold Format.nearest
  by_cases h0 : m = 0
  · rw [if_pos h0]
    rw [h0, Nat.zero_mul] at h
    have hz : rval f r = 0 := (Nat.mul_eq_zero.1 (Nat.le_zero.1 h)).resolve_right (Nat.ne_of_gt (Nat.two_pow_pos _))
    have : r = 0 := rval_inj f (hz.trans (rval_zero f).symm)
    exact ⟨0, Nat.le_of_eq this, rfl⟩
  rw [if_neg h0]
  simp only
  refine ⟨_, ?_, rfl⟩
  refine Nat.le_min.2 ⟨?_, hr⟩
  have hL1 : 2 ^ m.log2 ≤ m := Nat.log2_self_le h0
  have hL2 : m < 2 ^ (m.log2 + 1) := Nat.lt_log2_self
  generalize m.log2 = L at *
  generalize hlp : f.leastPlace = lp at *
  have hB : f.binade = 2 ^ f.fractionBits := rfl
  generalize hfb : f.fractionBits = fb at *
  by_cases hlast : p + (L : Int) - fb ≤ lp
  · rw [Int.max_eq_right hlast]
    have e0 : (lp - lp).toNat = 0 := by omega
    rw [e0, Nat.zero_mul, Nat.zero_add, Nat.shiftLeft_eq]
    have k1 : rval f r ≤ Toward.even.cut s (m * 2 ^ (p - lp).toNat) (lp - p).toNat := cut_even_ge s h
    have k2 : Toward.even.cut s (m * 2 ^ (p - lp).toNat) (lp - p).toNat ≤ 2 * f.binade := by
      refine cut_even_le s ?_
      rw [hB, ← Nat.pow_succ', ← Nat.pow_add]
      refine Nat.le_of_lt (Nat.lt_of_lt_of_le (Nat.mul_lt_mul_of_pos_right hL2 (Nat.two_pow_pos _)) ?_)
      rw [← Nat.pow_add]
      exact Nat.pow_le_pow_right (by decide) (by omega)
    refine Nat.le_of_not_lt fun hlt => ?_
    have := rval_lt f hlt
    rw [rval_small f _ k2] at this
    omega
  · rw [Int.max_eq_left (by omega)]
    obtain ⟨e, he⟩ : ∃ e : Nat, (p + (L : Int) - fb - lp).toNat = e := ⟨_, rfl⟩
    rw [he, Nat.shiftLeft_eq]
    have hepos : 0 < e := by omega
    generalize hn : m * 2 ^ (p - (p + (L : Int) - fb)).toNat = n at *
    generalize hd : (p + (L : Int) - fb - p).toNat = d at *
    have b1 : f.binade * 2 ^ d ≤ n := by
      rw [← hn, hB, ← Nat.pow_add]
      refine Nat.le_trans (Nat.pow_le_pow_right (by decide) (show fb + d ≤ L + (p - (p + (L : Int) - fb)).toNat by omega)) ?_
      rw [Nat.pow_add]
      exact Nat.mul_le_mul_right _ hL1
    have b2 : n ≤ 2 * f.binade * 2 ^ d := by
      rw [← hn, hB, ← Nat.pow_succ', ← Nat.pow_add]
      refine Nat.le_of_lt (Nat.lt_of_lt_of_le (Nat.mul_lt_mul_of_pos_right hL2 (Nat.two_pow_pos _)) ?_)
      rw [← Nat.pow_add]
      exact Nat.pow_le_pow_right (by decide) (by omega)
    have c2 : Toward.even.cut s n d ≤ 2 * f.binade := cut_even_le s b2
    have c1 : f.binade ≤ Toward.even.cut s n d := cut_even_ge s b1
    have hv : rval f r * 2 ^ d ≤ n * 2 ^ e := by
      have hx : rval f r * 2 ^ d * 2 ^ (lp - p).toNat ≤ n * 2 ^ e * 2 ^ (lp - p).toNat := by
        have e1 : n * 2 ^ e * 2 ^ (lp - p).toNat = (m * 2 ^ (p - lp).toNat) * 2 ^ d := by
          rw [← hn, Nat.mul_assoc, Nat.mul_assoc, Nat.mul_assoc, ← Nat.pow_add, ← Nat.pow_add, ← Nat.pow_add]
          congr 2
          omega
        rw [e1]
        calc rval f r * 2 ^ d * 2 ^ (lp - p).toNat = rval f r * 2 ^ (lp - p).toNat * 2 ^ d := by rw [Nat.mul_assoc, Nat.mul_comm (2 ^ d), ← Nat.mul_assoc]
          _ ≤ m * 2 ^ (p - lp).toNat * 2 ^ d := Nat.mul_le_mul_right _ h
      exact Nat.le_of_mul_le_mul_right hx (Nat.two_pow_pos _)
    refine Nat.le_of_not_lt fun hlt => ?_
    have h1 := rval_lt f hlt
    rw [rval_mul f e _ c1 c2] at h1
    have hr2 : (e + 1) * f.binade ≤ r := by rw [Nat.succ_mul]; omega
    obtain ⟨N, hN⟩ : ∃ N, rval f r = N * 2 ^ e := by
      have hq : e + 1 ≤ r / f.binade := (Nat.le_div_iff_mul_le hb).2 hr2
      have hnl : ¬ r < f.binade := by rw [Nat.succ_mul] at hr2; have := Nat.zero_le (e * f.binade); omega
      refine ⟨(f.binade + r % f.binade) * 2 ^ (r / f.binade - 1 - e), ?_⟩
      unfold rval
      rw [if_neg hnl, Nat.mul_assoc, ← Nat.pow_add]
      congr 2
      omega
    rw [hN] at h1 hv
    have h2 : N ≤ Toward.even.cut s n d := by
      refine cut_even_ge s ?_
      rw [Nat.mul_assoc, Nat.mul_comm (2 ^ e), ← Nat.mul_assoc] at hv
      exact Nat.le_of_mul_le_mul_right hv (Nat.two_pow_pos _)
    have := Nat.lt_of_mul_lt_mul_right h1
    omega
theorem Le.mono {a r s : Nat} (h : Le a r) (hs : r ≤ s) : Le a s := Nat.le_trans h hs
theorem Le.fi {a r : Nat} (h : Le a r) (hs : r < 2139095040) : Fi a := Nat.lt_of_le_of_lt h hs
end Go.Ab
