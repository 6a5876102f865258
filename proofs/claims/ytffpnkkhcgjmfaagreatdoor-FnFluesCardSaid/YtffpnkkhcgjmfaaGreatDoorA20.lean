/- Floats in the order of their words. -/
import Derived.Test.YtffpnkkhcgjmfaaGreatDoorA18
namespace Go.Ab
open Ieee

/-- the magnitude of a rung, in units of the least place -/
def rval (f : Format) (r : Nat) : Nat := if r < f.binade then r else (f.binade + r % f.binade) * 2 ^ (r / f.binade - 1)

theorem rval_lt_succ (f : Format) (r : Nat) : rval f r < rval f (r + 1) := by
  have hb : 0 < f.binade := Nat.two_pow_pos _
  generalize hB : f.binade = B at hb
  unfold rval
  rw [hB]
  by_cases h : r + 1 < B
  · rw [if_pos (by omega), if_pos h]; omega
  · by_cases h0 : r < B
    · have e : r + 1 = B := by omega
      rw [if_pos h0, if_neg h, e, Nat.mod_self, Nat.div_self hb]
      simp; omega
    · rw [if_neg h0, if_neg h]
      have hd := Nat.div_add_mod r B
      have hm := Nat.mod_lt r hb
      have hq : 1 ≤ r / B := (Nat.one_le_div_iff hb).2 (by omega)
      generalize hqq : r / B = q at *
      generalize hff : r % B = t at *
      by_cases ht : t + 1 < B
      · have e1 : (r + 1) / B = q := by
          rw [← hd, Nat.add_assoc, Nat.mul_add_div hb, Nat.div_eq_of_lt ht]; rfl
        have e2 : (r + 1) % B = t + 1 := by
          rw [← hd, Nat.add_assoc, Nat.mul_add_mod, Nat.mod_eq_of_lt ht]
        rw [e1, e2]
        exact Nat.mul_lt_mul_of_pos_right (by omega) (Nat.two_pow_pos _)
      · have ht' : t + 1 = B := by omega
        have e1 : (r + 1) / B = q + 1 := by
          rw [← hd, Nat.add_assoc, ht', Nat.mul_add_div hb, Nat.div_self hb]
        have e2 : (r + 1) % B = 0 := by
          rw [← hd, Nat.add_assoc, ht', Nat.mul_add_mod, Nat.mod_self]
        rw [e1, e2]
        have : 2 ^ (q + 1 - 1) = 2 ^ (q - 1) * 2 := by rw [← Nat.pow_succ]; congr 1; omega
        rw [this, Nat.add_zero]
        have hp : 0 < 2 ^ (q - 1) := Nat.two_pow_pos _
        calc (B + t) * 2 ^ (q - 1) < (B * 2) * 2 ^ (q - 1) := Nat.mul_lt_mul_of_pos_right (by omega) hp
          _ = B * (2 ^ (q - 1) * 2) := by rw [Nat.mul_assoc, Nat.mul_comm 2]
theorem rval_lt (f : Format) {r s : Nat} (h : r < s) : rval f r < rval f s := by
  induction s with
  | zero => omega
  | succ s ih =>
    rcases Nat.lt_or_ge r s with h1 | h1
    · exact Nat.lt_trans (ih h1) (rval_lt_succ f s)
    · obtain rfl : r = s := by omega
      exact rval_lt_succ f r
theorem rval_lt_iff (f : Format) (r s : Nat) : rval f r < rval f s ↔ r < s := by
  constructor
  · intro h
    rcases Nat.lt_trichotomy r s with h1 | h1 | h1
    · exact h1
    · subst h1; omega
    · have := rval_lt f h1; omega
  · exact rval_lt f
theorem rval_inj (f : Format) {r s : Nat} (h : rval f r = rval f s) : r = s := by
  rcases Nat.lt_trichotomy r s with h1 | h1 | h1
  · have := rval_lt f h1; omega
  · exact h1
  · have := rval_lt f h1; omega
theorem rval_zero (f : Format) : rval f 0 = 0 := by
  have hb : 0 < f.binade := Nat.two_pow_pos _
  simp [rval, hb]

/-- where a word stands in the order of all words -/
def key (f : Format) (a : Nat) : Int := if a / f.signWeight % 2 = 1 then -((a % f.signWeight : Nat) : Int) else ((a % f.signWeight : Nat) : Int)

def sval (f : Format) (a : Nat) : Int := if a / f.signWeight % 2 = 1 then -(rval f (a % f.signWeight) : Int) else (rval f (a % f.signWeight) : Int)

theorem signed_mul (s : Bool) (m i : Nat) : signed s m i = (if s then -1 else 1) * ((m : Int) * 2 ^ i) := by
  unfold signed
  rw [Nat.shiftLeft_eq]
  cases s <;> simp

theorem read_fin (f : Format) (a : Nat) (h : a % f.signWeight < f.infRung) : ∃ m i, f.read a = .number (a / f.signWeight % 2 == 1) m i ∧ f.leastPlace ≤ i ∧ m * 2 ^ (i - f.leastPlace).toNat = rval f (a % f.signWeight) := by
  unfold Format.read rval
  simp only
  by_cases h1 : a % f.signWeight < f.binade
  · rw [if_pos h1, if_pos h1]
    exact ⟨_, _, rfl, Int.le_refl _, by simp⟩
  · rw [if_neg h1, if_neg h1, if_pos h]
    refine ⟨_, _, rfl, by omega, ?_⟩
    rw [show (f.leastPlace + ((a % f.signWeight / f.binade - 1 : Nat) : Int) - f.leastPlace).toNat = a % f.signWeight / f.binade - 1 by omega]

theorem cmp_scale (x y : Int) (k : Nat) : compare (x * 2 ^ k) (y * 2 ^ k) = compare x y := by
  have hp : (0 : Int) < 2 ^ k := Int.pow_pos (by decide)
  rcases Int.lt_trichotomy x y with h | h | h
  · rw [Int.compare_eq_lt.2 h, Int.compare_eq_lt.2 (Int.mul_lt_mul_of_pos_right h hp)]
  · subst h; simp
  · rw [Int.compare_eq_gt.2 h, Int.compare_eq_gt.2 (Int.mul_lt_mul_of_pos_right h hp)]

theorem order_num (s t : Bool) (m n : Nat) (i j l : Int) (hi : l ≤ i) (hj : l ≤ j) :
    Datum.order (.number s m i) (.number t n j) = some (compare ((if s then -1 else 1) * ((m * 2 ^ (i - l).toNat : Nat) : Int)) ((if t then -1 else 1) * ((n * 2 ^ (j - l).toNat : Nat) : Int))) := by
  simp only [Datum.order, signed_mul]
  have e1 : (i - min i j).toNat + (min i j - l).toNat = (i - l).toNat := by omega
  have e2 : (j - min i j).toNat + (min i j - l).toNat = (j - l).toNat := by omega
  rw [← cmp_scale _ _ (min i j - l).toNat, Int.mul_assoc, Int.mul_assoc, Int.mul_assoc, Int.mul_assoc, ← Int.pow_add, ← Int.pow_add, e1, e2]
  simp only [Int.natCast_mul, Int.natCast_pow]
  rfl

theorem cmp_of_iff {x y x' y' : Int} (h1 : x < y ↔ x' < y') (h2 : y < x ↔ y' < x') : compare x y = compare x' y' := by
  rcases Int.lt_trichotomy x' y' with h | h | h
  · rw [Int.compare_eq_lt.2 h, Int.compare_eq_lt.2 (h1.2 h)]
  · have e : x = y := by
      rcases Int.lt_trichotomy x y with g | g | g
      · have := h1.1 g; omega
      · exact g
      · have := h2.1 g; omega
    subst e h; simp
  · rw [Int.compare_eq_gt.2 h, Int.compare_eq_gt.2 (h2.2 h)]

theorem isN_iff (k : FloatKind) (a : Nat) : isN k a = decide (k.format.infRung < a % k.format.signWeight) := by
  unfold isN Format.read
  simp only
  have hb : k.format.binade ≤ k.format.infRung := by cases k <;> decide
  split
  · rename_i h; simp [Datum.isNaN]; omega
  · split
    · rename_i h; simp [Datum.isNaN]; omega
    · split
      · rename_i h; simp [Datum.isNaN, h]
      · rename_i h1 h2 h3; simp [Datum.isNaN]; omega

theorem read_inf (k : FloatKind) (a : Nat) (h : a % k.format.signWeight = k.format.infRung) : k.format.read a = .infinity (a / k.format.signWeight % 2 == 1) := by
  have hb : k.format.binade ≤ k.format.infRung := by cases k <;> decide
  unfold Format.read
  simp only
  rw [h, if_neg (by omega), if_neg (by omega), if_pos rfl]

theorem mod2_bool (q : Nat) : (q % 2 == 1) = decide (q % 2 = 1) := by
  rcases Nat.mod_two_eq_zero_or_one q with h | h <;> simp [h]

/-- THE ORDER OF TWO NUMBERS IS THAT OF THEIR WORDS. -/
theorem order_key (k : FloatKind) (a b : Nat) (ha : isN k a = false) (hb : isN k b = false) : k.format.order a b = some (compare (key k.format a) (key k.format b)) := by
  rw [isN_iff] at ha hb
  have ha' : a % k.format.signWeight ≤ k.format.infRung := by simpa using ha
  have hb' : b % k.format.signWeight ≤ k.format.infRung := by simpa using hb
  have hI : 0 < k.format.infRung := by cases k <;> decide
  unfold Format.order key
  generalize hra : a % k.format.signWeight = r at *
  generalize hrb : b % k.format.signWeight = s at *
  rcases Nat.lt_or_eq_of_le ha' with h1 | h1
  · obtain ⟨m, i, e1, hi, v1⟩ := read_fin k.format a (by rw [hra]; exact h1)
    rw [hra] at v1
    rcases Nat.lt_or_eq_of_le hb' with h2 | h2
    · obtain ⟨n, j, e2, hj, v2⟩ := read_fin k.format b (by rw [hrb]; exact h2)
      rw [hrb] at v2
      rw [e1, e2, order_num _ _ _ _ _ _ _ hi hj, v1, v2, mod2_bool, mod2_bool]
      have L := rval_lt_iff k.format
      have Z := rval_zero k.format
      have z1 := L 0 r
      have z2 := L 0 s
      rw [Z] at z1 z2
      have l1 := L r s
      have l2 := L s r
      congr 1
      apply cmp_of_iff
      all_goals
        by_cases ca : a / k.format.signWeight % 2 = 1 <;> by_cases cb : b / k.format.signWeight % 2 = 1 <;> simp only [ca, cb, decide_true, decide_false, if_true, if_false, Bool.false_eq_true] <;> omega
    · rw [e1, read_inf k b (by rw [hrb]; exact h2), mod2_bool, mod2_bool]
      simp only [Datum.order]
      by_cases ca : a / k.format.signWeight % 2 = 1 <;> by_cases cb : b / k.format.signWeight % 2 = 1 <;> simp only [ca, cb, decide_true, decide_false, if_true, if_false, Bool.false_eq_true] <;> congr 1 <;> symm <;>
        first | (rw [Int.compare_eq_lt]; omega) | (rw [Int.compare_eq_gt]; omega)
  · rcases Nat.lt_or_eq_of_le hb' with h2 | h2
    · obtain ⟨n, j, e2, hj, v2⟩ := read_fin k.format b (by rw [hrb]; exact h2)
      rw [e2, read_inf k a (by rw [hra]; exact h1), mod2_bool, mod2_bool]
      simp only [Datum.order]
      by_cases ca : a / k.format.signWeight % 2 = 1 <;> by_cases cb : b / k.format.signWeight % 2 = 1 <;> simp only [ca, cb, decide_true, decide_false, if_true, if_false, Bool.false_eq_true] <;> congr 1 <;> symm <;>
        first | (rw [Int.compare_eq_lt]; omega) | (rw [Int.compare_eq_gt]; omega)
    · rw [read_inf k a (by rw [hra]; exact h1), read_inf k b (by rw [hrb]; exact h2), mod2_bool, mod2_bool]
      simp only [Datum.order]
      by_cases ca : a / k.format.signWeight % 2 = 1 <;> by_cases cb : b / k.format.signWeight % 2 = 1 <;> simp only [ca, cb, decide_true, decide_false, if_true, if_false, Bool.false_eq_true] <;> congr 1 <;> symm <;>
        first | exact (Int.compare_eq_eq.2 (by omega)).trans (by decide) | exact (Int.compare_eq_lt.2 (by omega)).trans (by decide) | exact (Int.compare_eq_gt.2 (by omega)).trans (by decide)
theorem flt_key (k : FloatKind) (a b : Nat) (ha : isN k a = false) (hb : isN k b = false) : flt k a b = decide (key k.format a < key k.format b) := by
  unfold flt
  rw [order_key k a b ha hb]
  rcases Int.lt_trichotomy (key k.format a) (key k.format b) with h | h | h
  · rw [Int.compare_eq_lt.2 h]; simp [h]
  · rw [Int.compare_eq_eq.2 h]; simp [h]
  · rw [Int.compare_eq_gt.2 h]; simp; omega
theorem fgt_key (k : FloatKind) (a b : Nat) (ha : isN k a = false) (hb : isN k b = false) : fgt k a b = decide (key k.format b < key k.format a) := by
  rw [fgt_eq, flt_key k b a hb ha]
theorem feq_key (k : FloatKind) (a b : Nat) (ha : isN k a = false) (hb : isN k b = false) : feq k a b = decide (key k.format a = key k.format b) := by
  unfold feq
  rw [order_key k a b ha hb]
  rcases Int.lt_trichotomy (key k.format a) (key k.format b) with h | h | h
  · rw [Int.compare_eq_lt.2 h]; simp; omega
  · rw [Int.compare_eq_eq.2 h]; simp [h]
  · rw [Int.compare_eq_gt.2 h]; simp; omega
end Go.Ab

namespace Go.Ab
open Ieee

theorem cut_even0 (s : Bool) (n : Nat) : Toward.even.cut s n 0 = n := by
  unfold Toward.cut
  simp [Nat.mod_one]

theorem word_rung (f : Format) (s : Bool) (r : Nat) (h : r < f.signWeight) : f.word s r % f.signWeight = r ∧ f.word s r / f.signWeight % 2 = s.toNat := by
  unfold Format.word
  have hp : 0 < f.signWeight := Nat.two_pow_pos _
  cases s with
  | true =>
    simp only [if_true, Bool.toNat_true]
    rw [Nat.add_mod_left, Nat.mod_eq_of_lt h]
    rw [Nat.add_div_left _ hp, Nat.div_eq_of_lt h]
    exact ⟨rfl, rfl⟩
  | false =>
    simp only [Bool.false_eq_true, if_false, Bool.toNat_false]
    rw [Nat.mod_eq_of_lt h, Nat.div_eq_of_lt h]
    exact ⟨rfl, rfl⟩

theorem isN_word (k : FloatKind) (s : Bool) (r : Nat) (h : r ≤ k.format.infRung) : isN k (k.format.word s r) = false := by
  have h2 : k.format.infRung < k.format.signWeight := by cases k <;> decide
  rw [isN_iff, (word_rung _ s r (by omega)).1]
  simp; exact h
theorem key_word (k : FloatKind) (s : Bool) (r : Nat) (h : r ≤ k.format.infRung) : key k.format (k.format.word s r) = if s then -(r : Int) else r := by
  have h2 : k.format.infRung < k.format.signWeight := by cases k <;> decide
  obtain ⟨e1, e2⟩ := word_rung k.format s r (by omega)
  unfold key
  rw [e1, e2]
  cases s <;> simp

theorem nearest_small (s : Bool) (m : Nat) (i : Int) (hm : m < 16777216) (h1 : -149 ≤ i) (h2 : i ≤ 104) : ∃ r, double.nearest s m i = double.word s r ∧ r < double.infRung := by
  unfold Format.nearest
  by_cases h0 : m = 0
  · rw [if_pos h0]; exact ⟨0, rfl, by decide⟩
  · rw [if_neg h0]
    simp only
    have hl : m.log2 < 24 := (Nat.log2_lt h0).2 hm
    have elp : double.leastPlace = -1074 := by decide
    have efb : double.fractionBits = 52 := rfl
    have ebn : double.binade = 4503599627370496 := by decide
    have eir : double.infRung = 9218868437227405312 := by decide
    have e1 : max (i + (m.log2 : Int) - double.fractionBits) double.leastPlace = i + (m.log2 : Int) - 52 := by rw [elp, efb]; omega
    rw [e1]
    have e2 : (i + (m.log2 : Int) - 52 - i).toNat = 0 := by omega
    have e3 : (i - (i + (m.log2 : Int) - 52)).toNat = 52 - m.log2 := by omega
    rw [e2, e3, cut_even0, Nat.shiftLeft_eq]
    have hk : m * 2 ^ (52 - m.log2) < 9007199254740992 := by
      have := Nat.lt_log2_self (n := m)
      calc m * 2 ^ (52 - m.log2) < 2 ^ (m.log2 + 1) * 2 ^ (52 - m.log2) := Nat.mul_lt_mul_of_pos_right this (Nat.two_pow_pos _)
        _ = 2 ^ 53 := by rw [← Nat.pow_add]; congr 1; omega
    refine ⟨_, rfl, ?_⟩
    rw [elp, ebn, eir]
    have : (i + (m.log2 : Int) - 52 - -1074).toNat ≤ 1149 := by omega
    have h3 := Nat.mul_le_mul_right 4503599627370496 this
    refine Nat.lt_of_le_of_lt (Nat.min_le_left _ _) ?_
    omega

theorem widen_fin (a : Nat) (h : a % 2147483648 < 2139095040) : ∃ s r, widen a = double.word s r ∧ r < double.infRung := by
  unfold widen
  have hw : single.signWeight = 2147483648 := by decide
  have hi : single.infRung = 2139095040 := by decide
  have hb : single.binade = 8388608 := by decide
  have hl : single.leastPlace = -149 := by decide
  have hd : ∃ s m i, FloatKind.f32.decode a = .number s m i ∧ m < 16777216 ∧ -149 ≤ i ∧ i ≤ 104 := by
    show ∃ s m i, single.read a = .number s m i ∧ m < 16777216 ∧ -149 ≤ i ∧ i ≤ 104
    unfold Format.read
    simp only
    rw [hw, hi, hb, hl]
    split
    · exact ⟨_, _, _, rfl, by omega, by omega, by omega⟩
    · skip
      exact ⟨_, _, _, rfl, by omega, by omega, by omega⟩
  obtain ⟨s, m, i, e, h1, h2, h3⟩ := hd
  rw [e]
  obtain ⟨r, er, hr⟩ := nearest_small s m i h1 h2 h3
  exact ⟨s, r, er, hr⟩

theorem widen_inf (a : Nat) (h : a % 2147483648 = 2139095040) : widen a = double.word (a / 2147483648 % 2 == 1) double.infRung := by
  have := read_inf .f32 a (by rw [show FloatKind.f32.format.signWeight = 2147483648 from by decide]; exact h)
  unfold widen
  rw [show FloatKind.f32.decode a = .infinity (a / FloatKind.f32.format.signWeight % 2 == 1) from this]
  rw [show FloatKind.f32.format.signWeight = 2147483648 from by decide]
  rfl

theorem widen_nan (a : Nat) (h : isN .f32 a = true) : widen a = qnan .f64 := by
  unfold isN at h
  unfold widen
  have : FloatKind.f32.decode a = FloatKind.f32.format.read a := rfl
  rw [this]
  revert h
  cases FloatKind.f32.format.read a with
  | nan s f => intro _; rfl
  | number s m i => intro h; cases h
  | infinity s => intro h; cases h

theorem isN32 (a : Nat) : isN .f32 a = decide (2139095040 < a % 2147483648) := by
  rw [isN_iff, show FloatKind.f32.format.signWeight = 2147483648 from by decide, show FloatKind.f32.format.infRung = 2139095040 from by decide]
theorem isN64 (a : Nat) : isN .f64 a = decide (9218868437227405312 < a % 9223372036854775808) := by
  rw [isN_iff, show FloatKind.f64.format.signWeight = 9223372036854775808 from by decide, show FloatKind.f64.format.infRung = 9218868437227405312 from by decide]

theorem isN_widen (a : Nat) : isN .f64 (widen a) = isN .f32 a := by
  by_cases h : isN .f32 a = true
  · rw [h, widen_nan a h]; exact isN_qnan .f64
  · have h' := h
    rw [isN32, decide_eq_true_eq] at h'
    rw [Bool.not_eq_true] at h
    rw [h]
    rcases Nat.lt_or_eq_of_le (Nat.not_lt.1 h') with h1 | h1
    · obtain ⟨s, r, e, hr⟩ := widen_fin a h1
      rw [e]; exact isN_word .f64 s r (Nat.le_of_lt hr)
    · rw [widen_inf a h1]; exact isN_word .f64 _ _ (Nat.le_refl _)

/-- which float32 is above all numbers -/
theorem widen_top (a : Nat) (h : a < 4294967296) (hn : isN .f32 a = false) : fgt .f64 (widen a) 9218868437227405311 = decide (a = 2139095040) := by
  have hd : (9218868437227405311 : Nat) = double.word false 9218868437227405311 := rfl
  have hir : double.infRung = 9218868437227405312 := by decide
  rw [fgt_key .f64 _ _ (by rw [isN_widen, hn]) (by rw [isN64]; decide)]
  have k2 : key FloatKind.f64.format 9218868437227405311 = 9218868437227405311 := by decide
  rw [k2]
  rw [isN32, decide_eq_false_iff_not] at hn
  rcases Nat.lt_or_eq_of_le (Nat.not_lt.1 hn) with h1 | h1
  · obtain ⟨s, r, e, hr⟩ := widen_fin a h1
    rw [e, show key FloatKind.f64.format (double.word s r) = _ from key_word .f64 s r (Nat.le_of_lt hr)]
    rw [hir] at hr
    have : a ≠ 2139095040 := by rintro rfl; simp at h1
    cases s <;> simp [this] <;> omega
  · rw [widen_inf a h1, show key FloatKind.f64.format (double.word _ double.infRung) = _ from key_word .f64 _ _ (Nat.le_refl _), hir, mod2_bool]
    by_cases h2 : a / 2147483648 % 2 = 1
    · simp [h2]; omega
    · simp [h2]; omega
/-- a float32 against a fixed word -/
theorem key32 (a : Nat) (h : a < 4294967296) : key FloatKind.f32.format a = if 2147483648 ≤ a then 2147483648 - (a : Int) else a := by
  unfold key
  rw [show FloatKind.f32.format.signWeight = 2147483648 from by decide]
  split <;> split <;> omega
end Go.Ab
