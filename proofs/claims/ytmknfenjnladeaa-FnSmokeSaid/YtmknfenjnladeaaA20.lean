/- Floats in the order of their words. -/
import Derived.Test.YtmknfenjnladeaaA19
namespace Go.Ab
open Ieee

def rval (f : Format) (r : Nat) : Nat := if r < f.binade then r else (f.binade + r % f.binade) * 2 ^ (r / f.binade - 1)

theorem rval_lt_succ (f : Format) (r : Nat) : rval f r < rval f (r + 1) := by
  have hb : 0 < f.binade := Nat.two_pow_pos _
  generalize hB : f.binade = B at hb
  unfold rval
  rw [hB]
  by_cases h : r + 1 < B
  · rw [if_pos (by omega),if_pos h]; omega
  · by_cases h0 : r < B
    · have e : r + 1 = B := by omega
      rw [if_pos h0,if_neg h,e,Nat.mod_self,Nat.div_self hb]
      simp; omega
    · rw [if_neg h0,if_neg h]
      have hd := Nat.div_add_mod r B
      have hm := Nat.mod_lt r hb
      have hq : 1 ≤ r / B := (Nat.one_le_div_iff hb).2 (by omega)
      generalize hqq : r / B = q at *
      generalize hff : r % B = t at *
      by_cases ht : t + 1 < B
      · have e1 : (r + 1) / B = q := by
          rw [← hd,Nat.add_assoc,Nat.mul_add_div hb,Nat.div_eq_of_lt ht]; rfl
        have e2 : (r + 1) % B = t + 1 := by
          rw [← hd,Nat.add_assoc,Nat.mul_add_mod,Nat.mod_eq_of_lt ht]
        rw [e1,e2]
        exact Nat.mul_lt_mul_of_pos_right (by omega) (Nat.two_pow_pos _)
      · have ht' : t + 1 = B := by omega
        have e1 : (r + 1) / B = q + 1 := by
          rw [← hd,Nat.add_assoc,ht',Nat.mul_add_div hb,Nat.div_self hb]
        have e2 : (r + 1) % B = 0 := by
          rw [← hd,Nat.add_assoc,ht',Nat.mul_add_mod,Nat.mod_self]
        rw [e1,e2]
        have : 2 ^ (q + 1 - 1) = 2 ^ (q - 1) * 2 := by rw [← Nat.pow_succ]; congr 1; omega
        rw [this,Nat.add_zero]
        have hp : 0 < 2 ^ (q - 1) := Nat.two_pow_pos _
        calc (B + t) * 2 ^ (q - 1) < (B * 2) * 2 ^ (q - 1) := Nat.mul_lt_mul_of_pos_right (by omega) hp
          _ = B * (2 ^ (q - 1) * 2) := by rw [Nat.mul_assoc,Nat.mul_comm 2]
theorem rval_lt (f : Format) {r s : Nat} (h : r < s) : rval f r < rval f s := by
  induction s with
  | zero => omega
  | succ s ih =>
    rcases Nat.lt_or_ge r s with h1 | h1
    · exact Nat.lt_trans (ih h1) (rval_lt_succ f s)
    · obtain rfl : r = s := by omega
      exact rval_lt_succ f r
theorem rval_lt_iff (f : Format) (r s : Nat) : rval f r < rval f s ↔ r < s := by
  constructor
  · intro h
    rcases Nat.lt_trichotomy r s with h1 | h1 | h1
    · exact h1
    · subst h1; omega
    · have := rval_lt f h1; omega
  · exact rval_lt f
theorem rval_inj (f : Format) {r s : Nat} (h : rval f r = rval f s) : r = s := by
  rcases Nat.lt_trichotomy r s with h1 | h1 | h1
  · have := rval_lt f h1; omega
  · exact h1
  · have := rval_lt f h1; omega
theorem rval_zero (f : Format) : rval f 0 = 0 := by
  have hb : 0 < f.binade := Nat.two_pow_pos _
  simp [rval,hb]

def key (f : Format) (a : Nat) : Int := if a / f.signWeight % 2 = 1 then -((a % f.signWeight : Nat) : Int) else ((a % f.signWeight : Nat) : Int)

theorem signed_mul (s : Bool) (m i : Nat) : signed s m i = (if s then -1 else 1) * ((m : Int) * 2 ^ i) := by
  unfold signed
  rw [Nat.shiftLeft_eq]
  cases s <;> simp

theorem read_fin (f : Format) (a : Nat) (h : a % f.signWeight < f.infRung) : ∃ m i,f.read a = .number (a / f.signWeight % 2 == 1) m i ∧ f.leastPlace ≤ i ∧ m * 2 ^ (i - f.leastPlace).toNat = rval f (a % f.signWeight) := by
  unfold Format.read rval
  simp only
  by_cases h1 : a % f.signWeight < f.binade
  · rw [if_pos h1,if_pos h1]
    exact ⟨_,_,rfl,Int.le_refl _,by simp⟩
  · rw [if_neg h1,if_neg h1,if_pos h]
    refine ⟨_,_,rfl,by omega,?_⟩
    rw [show (f.leastPlace + ((a % f.signWeight / f.binade - 1 : Nat) : Int) - f.leastPlace).toNat = a % f.signWeight / f.binade - 1 by omega]

theorem cmp_scale (x y : Int) (k : Nat) : compare (x * 2 ^ k) (y * 2 ^ k) = compare x y := by
  have hp : (0 : Int) < 2 ^ k := Int.pow_pos (by decide)
  rcases Int.lt_trichotomy x y with h | h | h
  · rw [Int.compare_eq_lt.2 h,Int.compare_eq_lt.2 (Int.mul_lt_mul_of_pos_right h hp)]
  · subst h; simp
  · rw [Int.compare_eq_gt.2 h,Int.compare_eq_gt.2 (Int.mul_lt_mul_of_pos_right h hp)]

theorem order_num (s t : Bool) (m n : Nat) (i j l : Int) (hi : l ≤ i) (hj : l ≤ j) :
    Datum.order (.number s m i) (.number t n j) = some (compare ((if s then -1 else 1) * ((m * 2 ^ (i - l).toNat : Nat) : Int)) ((if t then -1 else 1) * ((n * 2 ^ (j - l).toNat : Nat) : Int))) := by
  simp only [Datum.order,signed_mul]
  have e1 : (i - min i j).toNat + (min i j - l).toNat = (i - l).toNat := by omega
  have e2 : (j - min i j).toNat + (min i j - l).toNat = (j - l).toNat := by omega
  rw [← cmp_scale _ _ (min i j - l).toNat,Int.mul_assoc,Int.mul_assoc,Int.mul_assoc,Int.mul_assoc,← Int.pow_add,← Int.pow_add,e1,e2]
  simp only [Int.natCast_mul,Int.natCast_pow]
  rfl

theorem cmp_of_iff {x y x' y' : Int} (h1 : x < y ↔ x' < y') (h2 : y < x ↔ y' < x') : compare x y = compare x' y' := by
  rcases Int.lt_trichotomy x' y' with h | h | h
  · rw [Int.compare_eq_lt.2 h,Int.compare_eq_lt.2 (h1.2 h)]
  · have e : x = y := by
      rcases Int.lt_trichotomy x y with g | g | g
      · have := h1.1 g; omega
      · exact g
      · have := h2.1 g; omega
    subst e h; simp
  · rw [Int.compare_eq_gt.2 h,Int.compare_eq_gt.2 (h2.2 h)]

theorem isN_iff (k : FloatKind) (a : Nat) : isN k a = decide (k.format.infRung < a % k.format.signWeight) := by
  unfold isN Format.read
  simp only
  have hb : k.format.binade ≤ k.format.infRung := by cases k <;> decide
  split
  · rename_i h; simp [Datum.isNaN]; omega
  · split
    · rename_i h; simp [Datum.isNaN]; omega
    · split
      · rename_i h; simp [Datum.isNaN,h]
      · rename_i h1 h2 h3; simp [Datum.isNaN]; omega

theorem read_inf (k : FloatKind) (a : Nat) (h : a % k.format.signWeight = k.format.infRung) : k.format.read a = .infinity (a / k.format.signWeight % 2 == 1) := by
  have hb : k.format.binade ≤ k.format.infRung := by cases k <;> decide
  unfold Format.read
  simp only
  rw [h,if_neg (by omega),if_neg (by omega),if_pos rfl]

theorem mod2_bool (q : Nat) : (q % 2 == 1) = decide (q % 2 = 1) := by
  rcases Nat.mod_two_eq_zero_or_one q with h | h <;> simp [h]

theorem order_key (k : FloatKind) (a b : Nat) (ha : isN k a = false) (hb : isN k b = false) : k.format.order a b = some (compare (key k.format a) (key k.format b)) := by
  rw [isN_iff] at ha hb
  have ha' : a % k.format.signWeight ≤ k.format.infRung := by simpa using ha
  have hb' : b % k.format.signWeight ≤ k.format.infRung := by simpa using hb
  have hI : 0 < k.format.infRung := by cases k <;> decide
  unfold Format.order key
  generalize hra : a % k.format.signWeight = r at *
  generalize hrb : b % k.format.signWeight = s at *
  rcases Nat.lt_or_eq_of_le ha' with h1 | h1
  · obtain ⟨m,i,e1,hi,v1⟩ := read_fin k.format a (by rw [hra]; exact h1)
    rw [hra] at v1
    rcases Nat.lt_or_eq_of_le hb' with h2 | h2
    · obtain ⟨n,j,e2,hj,v2⟩ := read_fin k.format b (by rw [hrb]; exact h2)
      rw [hrb] at v2
      rw [e1,e2,order_num _ _ _ _ _ _ _ hi hj,v1,v2,mod2_bool,mod2_bool]
      have L := rval_lt_iff k.format
      have Z := rval_zero k.format
      have z1 := L 0 r
      have z2 := L 0 s
      rw [Z] at z1 z2
      have l1 := L r s
      have l2 := L s r
      congr 1
      apply cmp_of_iff
      all_goals
        by_cases ca : a / k.format.signWeight % 2 = 1 <;> by_cases cb : b / k.format.signWeight % 2 = 1 <;> simp only [ca,cb,decide_true,decide_false,if_true,if_false,Bool.false_eq_true] <;> omega
    · rw [e1,read_inf k b (by rw [hrb]; exact h2),mod2_bool,mod2_bool]
      simp only [Datum.order]
      by_cases ca : a / k.format.signWeight % 2 = 1 <;> by_cases cb : b / k.format.signWeight % 2 = 1 <;> simp only [ca,cb,decide_true,decide_false,if_true,if_false,Bool.false_eq_true] <;> congr 1 <;> symm <;>
        first | (rw [Int.compare_eq_lt]; omega) | (rw [Int.compare_eq_gt]; omega)
  · rcases Nat.lt_or_eq_of_le hb' with h2 | h2
    · obtain ⟨n,j,e2,hj,v2⟩ := read_fin k.format b (by rw [hrb]; exact h2)
      rw [e2,read_inf k a (by rw [hra]; exact h1),mod2_bool,mod2_bool]
      simp only [Datum.order]
      by_cases ca : a / k.format.signWeight % 2 = 1 <;> by_cases cb : b / k.format.signWeight % 2 = 1 <;> simp only [ca,cb,decide_true,decide_false,if_true,if_false,Bool.false_eq_true] <;> congr 1 <;> symm <;>
        first | (rw [Int.compare_eq_lt]; omega) | (rw [Int.compare_eq_gt]; omega)
    · rw [read_inf k a (by rw [hra]; exact h1),read_inf k b (by rw [hrb]; exact h2),mod2_bool,mod2_bool]
      simp only [Datum.order]
      by_cases ca : a / k.format.signWeight % 2 = 1 <;> by_cases cb : b / k.format.signWeight % 2 = 1 <;> simp only [ca,cb,decide_true,decide_false,if_true,if_false,Bool.false_eq_true] <;> congr 1 <;> symm <;>
        first | exact (Int.compare_eq_eq.2 (by omega)).trans (by decide) | exact (Int.compare_eq_lt.2 (by omega)).trans (by decide) | exact (Int.compare_eq_gt.2 (by omega)).trans (by decide)
theorem flt_key (k : FloatKind) (a b : Nat) (ha : isN k a = false) (hb : isN k b = false) : flt k a b = decide (key k.format a < key k.format b) := by
  unfold flt
  rw [order_key k a b ha hb]
  rcases Int.lt_trichotomy (key k.format a) (key k.format b) with h | h | h
  · rw [Int.compare_eq_lt.2 h]; simp [h]
  · rw [Int.compare_eq_eq.2 h]; simp [h]
  · rw [Int.compare_eq_gt.2 h]; simp; omega
theorem fgt_key (k : FloatKind) (a b : Nat) (ha : isN k a = false) (hb : isN k b = false) : fgt k a b = decide (key k.format b < key k.format a) := by
  rw [fgt_eq,flt_key k b a hb ha]
theorem feq_key (k : FloatKind) (a b : Nat) (ha : isN k a = false) (hb : isN k b = false) : feq k a b = decide (key k.format a = key k.format b) := by
  unfold feq
  rw [order_key k a b ha hb]
  rcases Int.lt_trichotomy (key k.format a) (key k.format b) with h | h | h
  · rw [Int.compare_eq_lt.2 h]; simp; omega
  · rw [Int.compare_eq_eq.2 h]; simp [h]
  · rw [Int.compare_eq_gt.2 h]; simp; omega
end Go.Ab
