/- A float32 as a float64. -/
import Derived.Test.YtmknfenjnladeaaA20
namespace Go.Ab
open Ieee

theorem cut_even0 (s : Bool) (n : Nat) : Toward.even.cut s n 0 = n := by
  unfold Toward.cut
  simp [Nat.mod_one]

theorem word_rung (f : Format) (s : Bool) (r : Nat) (h : r < f.signWeight) : f.word s r % f.signWeight = r ∧ f.word s r / f.signWeight % 2 = s.toNat := by
  unfold Format.word
  have hp : 0 < f.signWeight := Nat.two_pow_pos _
  cases s with
  | true =>
    simp only [if_true,Bool.toNat_true]
    rw [Nat.add_mod_left,Nat.mod_eq_of_lt h]
    rw [Nat.add_div_left _ hp,Nat.div_eq_of_lt h]
    exact ⟨rfl,rfl⟩
  | false =>
    simp only [Bool.false_eq_true,if_false,Bool.toNat_false]
    rw [Nat.mod_eq_of_lt h,Nat.div_eq_of_lt h]
    exact ⟨rfl,rfl⟩

theorem isN_word (k : FloatKind) (s : Bool) (r : Nat) (h : r ≤ k.format.infRung) : isN k (k.format.word s r) = false := by
  have h2 : k.format.infRung < k.format.signWeight := by cases k <;> decide
  rw [isN_iff,(word_rung _ s r (by omega)).1]
  simp; exact h
theorem nearest_small (s : Bool) (m : Nat) (i : Int) (hm : m < 16777216) (h1 : -149 ≤ i) (h2 : i ≤ 104) : ∃ r,double.nearest s m i = double.word s r ∧ r < double.infRung := by
  unfold Format.nearest
  by_cases h0 : m = 0
  · rw [if_pos h0]; exact ⟨0,rfl,by decide⟩
  · rw [if_neg h0]
    simp only
    have hl : m.log2 < 24 := (Nat.log2_lt h0).2 hm
    have elp : double.leastPlace = -1074 := by decide
    have efb : double.fractionBits = 52 := rfl
    have ebn : double.binade = 4503599627370496 := by decide
    have eir : double.infRung = 9218868437227405312 := by decide
    have e1 : max (i + (m.log2 : Int) - double.fractionBits) double.leastPlace = i + (m.log2 : Int) - 52 := by rw [elp,efb]; omega
    rw [e1]
    have e2 : (i + (m.log2 : Int) - 52 - i).toNat = 0 := by omega
    have e3 : (i - (i + (m.log2 : Int) - 52)).toNat = 52 - m.log2 := by omega
    rw [e2,e3,cut_even0,Nat.shiftLeft_eq]
    have hk : m * 2 ^ (52 - m.log2) < 9007199254740992 := by
      have := Nat.lt_log2_self (n := m)
      calc m * 2 ^ (52 - m.log2) < 2 ^ (m.log2 + 1) * 2 ^ (52 - m.log2) := Nat.mul_lt_mul_of_pos_right this (Nat.two_pow_pos _)
        _ = 2 ^ 53 := by rw [← Nat.pow_add]; congr 1; omega
    refine ⟨_,rfl,?_⟩
    rw [elp,ebn,eir]
    have : (i + (m.log2 : Int) - 52 - -1074).toNat ≤ 1149 := by omega
    have h3 := Nat.mul_le_mul_right 4503599627370496 this
    refine Nat.lt_of_le_of_lt (Nat.min_le_left _ _) ?_
    omega

theorem widen_fin (a : Nat) (h : a % 2147483648 < 2139095040) : ∃ s r,widen a = double.word s r ∧ r < double.infRung := by
  unfold widen
  have hw : single.signWeight = 2147483648 := by decide
  have hi : single.infRung = 2139095040 := by decide
  have hb : single.binade = 8388608 := by decide
  have hl : single.leastPlace = -149 := by decide
  have hd : ∃ s m i,FloatKind.f32.decode a = .number s m i ∧ m < 16777216 ∧ -149 ≤ i ∧ i ≤ 104 := by
    show ∃ s m i,single.read a = .number s m i ∧ m < 16777216 ∧ -149 ≤ i ∧ i ≤ 104
    unfold Format.read
    simp only
    rw [hw,hi,hb,hl]
    split
    · exact ⟨_,_,_,rfl,by omega,by omega,by omega⟩
    · skip
      exact ⟨_,_,_,rfl,by omega,by omega,by omega⟩
  obtain ⟨s,m,i,e,h1,h2,h3⟩ := hd
  rw [e]
  obtain ⟨r,er,hr⟩ := nearest_small s m i h1 h2 h3
  exact ⟨s,r,er,hr⟩

theorem widen_inf (a : Nat) (h : a % 2147483648 = 2139095040) : widen a = double.word (a / 2147483648 % 2 == 1) double.infRung := by
  have := read_inf .f32 a (by rw [show FloatKind.f32.format.signWeight = 2147483648 from by decide]; exact h)
  unfold widen
  rw [show FloatKind.f32.decode a = .infinity (a / FloatKind.f32.format.signWeight % 2 == 1) from this]
  rw [show FloatKind.f32.format.signWeight = 2147483648 from by decide]
  rfl

theorem widen_nan (a : Nat) (h : isN .f32 a = true) : widen a = qnan .f64 := by
  unfold isN at h
  unfold widen
  have : FloatKind.f32.decode a = FloatKind.f32.format.read a := rfl
  rw [this]
  revert h
  cases FloatKind.f32.format.read a with
  | nan s f => intro _; rfl
  | number s m i => intro h; cases h
  | infinity s => intro h; cases h

theorem isN32 (a : Nat) : isN .f32 a = decide (2139095040 < a % 2147483648) := by
  rw [isN_iff,show FloatKind.f32.format.signWeight = 2147483648 from by decide,show FloatKind.f32.format.infRung = 2139095040 from by decide]
theorem isN64 (a : Nat) : isN .f64 a = decide (9218868437227405312 < a % 9223372036854775808) := by
  rw [isN_iff,show FloatKind.f64.format.signWeight = 9223372036854775808 from by decide,show FloatKind.f64.format.infRung = 9218868437227405312 from by decide]

theorem isN_widen (a : Nat) : isN .f64 (widen a) = isN .f32 a := by
  by_cases h : isN .f32 a = true
  · rw [h,widen_nan a h]; exact isN_qnan .f64
  · have h' := h
    rw [isN32,decide_eq_true_eq] at h'
    rw [Bool.not_eq_true] at h
    rw [h]
    rcases Nat.lt_or_eq_of_le (Nat.not_lt.1 h') with h1 | h1
    · obtain ⟨s,r,e,hr⟩ := widen_fin a h1
      rw [e]; exact isN_word .f64 s r (Nat.le_of_lt hr)
    · rw [widen_inf a h1]; exact isN_word .f64 _ _ (Nat.le_refl _)

theorem key32 (a : Nat) (h : a < 4294967296) : key FloatKind.f32.format a = if 2147483648 ≤ a then 2147483648 - (a : Int) else a := by
  unfold key
  rw [show FloatKind.f32.format.signWeight = 2147483648 from by decide]
  split <;> split <;> omega
end Go.Ab
