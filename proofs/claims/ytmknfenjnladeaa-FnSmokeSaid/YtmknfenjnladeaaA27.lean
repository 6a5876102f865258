/- How great a float32 can be that is calculated: sums, products, quotients; signs. -/
import Derived.Test.YtmknfenjnladeaaA26
import Derived.Test.YtmknfenjnladeaaA22
namespace Go.Ab
open Ieee

theorem cut_even_le (s : Bool) {n d N : Nat} (h : n ≤ N * 2 ^ d) : Toward.even.cut s n d ≤ N := by
  unfold Toward.cut
  simp only [Nat.one_shiftLeft]
  by_cases hd : d ≤ n.log2 + 2
  · rw [Nat.min_eq_left hd]
    generalize hg : 2 ^ d = g at h
    have gpos : 0 < g := by rw [← hg]; exact Nat.two_pow_pos _
    have hdm := Nat.div_add_mod n g
    have hm := Nat.mod_lt n gpos
    by_cases hl : n / g = N
    · have hr : n % g = 0 := by
        rw [hl,Nat.mul_comm] at hdm
        omega
      rw [hr,hl]
      have e1 : (decide (g < 2 * 0)) = false := by simp
      have e2 : (g == 2 * 0) = false := by simp; omega
      simp [e1,e2]
    · have : n / g ≤ N := by
        have := Nat.div_le_div_right (c := g) h
        rwa [Nat.mul_div_cancel _ gpos] at this
      have hb : ∀ b : Bool,b.toNat ≤ 1 := fun b => by cases b <;> decide
      have := hb (decide (g < 2 * (n % g)) || g == 2 * (n % g) && n / g % 2 == 1)
      omega
  · rw [Nat.min_eq_right (by omega)]
    have hlt : n < 2 ^ (n.log2 + 1) := Nat.lt_log2_self
    have e : 2 ^ (n.log2 + 2) = 2 ^ (n.log2 + 1) * 2 := Nat.pow_succ _ _
    rw [e]
    generalize 2 ^ (n.log2 + 1) = q at hlt
    rw [Nat.div_eq_of_lt (by omega),Nat.mod_eq_of_lt (by omega)]
    have e1 : (decide (q * 2 < 2 * n)) = false := by simp; omega
    have e2 : (q * 2 == 2 * n) = false := by simp; omega
    simp [e1,e2]

theorem rval_mul (f : Format) (e k : Nat) (hk : f.binade ≤ k) (hk2 : k ≤ 2 * f.binade) : rval f (e * f.binade + k) = k * 2 ^ e := by
  have hb : 0 < f.binade := Nat.two_pow_pos _
  generalize hB : f.binade = B at *
  unfold rval
  rw [hB,if_neg (by have := Nat.zero_le (e * B); omega)]
  by_cases h : k = 2 * B
  · subst h
    have e1 : (e * B + 2 * B) / B = e + 2 := by rw [← Nat.add_mul,Nat.mul_div_cancel _ hb]
    have e2 : (e * B + 2 * B) % B = 0 := by rw [← Nat.add_mul,Nat.mul_mod_left]
    rw [e1,e2,show e + 2 - 1 = e + 1 by omega,Nat.pow_succ,Nat.add_zero,Nat.mul_comm 2 B,Nat.mul_assoc,Nat.mul_comm 2]
  · have e1 : (e * B + k) / B = e + 1 := by
      have : e * B + k = (e + 1) * B + (k - B) := by rw [Nat.succ_mul]; omega
      rw [this,Nat.mul_comm,Nat.mul_add_div hb,Nat.div_eq_of_lt (by omega),Nat.add_zero]
    have e2 : (e * B + k) % B = k - B := by
      have : e * B + k = (e + 1) * B + (k - B) := by rw [Nat.succ_mul]; omega
      rw [this,Nat.mul_comm,Nat.mul_add_mod,Nat.mod_eq_of_lt (by omega)]
    rw [e1,e2,Nat.add_sub_cancel,show B + (k - B) = k by omega]
theorem rval_small (f : Format) (k : Nat) (hk : k ≤ 2 * f.binade) : rval f k = k := by
  by_cases h : f.binade ≤ k
  · have := rval_mul f 0 k h hk
    simpa using this
  · unfold rval; rw [if_pos (by omega)]

theorem nearest_le (f : Format) (s : Bool) (m : Nat) (p : Int) (r : Nat) (hr : r ≤ f.infRung) (h : m * 2 ^ (p - f.leastPlace).toNat ≤ rval f r * 2 ^ (f.leastPlace - p).toNat) :
    ∃ q,q ≤ r ∧ f.nearest s m p = f.word s q := by
  have hb : 0 < f.binade := Nat.two_pow_pos _
  unfold Format.nearest
  by_cases h0 : m = 0
  · rw [if_pos h0]; exact ⟨0,Nat.zero_le _,rfl⟩
  rw [if_neg h0]
  simp only
  refine ⟨_,?_,rfl⟩
  refine Nat.le_trans (Nat.min_le_left _ _) ?_
  have hL1 : 2 ^ m.log2 ≤ m := Nat.log2_self_le h0
  have hL2 : m < 2 ^ (m.log2 + 1) := Nat.lt_log2_self
  generalize m.log2 = L at *
  generalize hlp : f.leastPlace = lp at *
  have hB : f.binade = 2 ^ f.fractionBits := rfl
  generalize hfb : f.fractionBits = fb at *
  by_cases hlast : p + (L : Int) - fb ≤ lp
  · -- subnormal or the first binade
    rw [Int.max_eq_right hlast]
    have e0 : (lp - lp).toNat = 0 := by omega
    rw [e0,Nat.zero_mul,Nat.zero_add,Nat.shiftLeft_eq]
    have k1 : Toward.even.cut s (m * 2 ^ (p - lp).toNat) (lp - p).toNat ≤ rval f r := cut_even_le s h
    have k2 : Toward.even.cut s (m * 2 ^ (p - lp).toNat) (lp - p).toNat ≤ 2 * f.binade := by
      refine cut_even_le s ?_
      rw [hB,← Nat.pow_succ',← Nat.pow_add]
      refine Nat.le_of_lt (Nat.lt_of_lt_of_le (Nat.mul_lt_mul_of_pos_right hL2 (Nat.two_pow_pos _)) ?_)
      rw [← Nat.pow_add]
      exact Nat.pow_le_pow_right (by decide) (by omega)
    refine Nat.le_of_not_lt fun hlt => ?_
    have := rval_lt f hlt
    rw [rval_small f _ k2] at this
    omega
  · -- a full significand
    rw [Int.max_eq_left (by omega)]
    obtain ⟨e,he⟩ : ∃ e : Nat,(p + (L : Int) - fb - lp).toNat = e := ⟨_,rfl⟩
    rw [he,Nat.shiftLeft_eq]
    have hepos : 0 < e := by omega
    generalize hn : m * 2 ^ (p - (p + (L : Int) - fb)).toNat = n at *
    generalize hd : (p + (L : Int) - fb - p).toNat = d at *
    -- n / 2 ^ d lies within a binade
    have b1 : f.binade * 2 ^ d ≤ n := by
      rw [← hn,hB,← Nat.pow_add]
      refine Nat.le_trans (Nat.pow_le_pow_right (by decide) (show fb + d ≤ L + (p - (p + (L : Int) - fb)).toNat by omega)) ?_
      rw [Nat.pow_add]
      exact Nat.mul_le_mul_right _ hL1
    have b2 : n ≤ 2 * f.binade * 2 ^ d := by
      rw [← hn,hB,← Nat.pow_succ',← Nat.pow_add]
      refine Nat.le_of_lt (Nat.lt_of_lt_of_le (Nat.mul_lt_mul_of_pos_right hL2 (Nat.two_pow_pos _)) ?_)
      rw [← Nat.pow_add]
      exact Nat.pow_le_pow_right (by decide) (by omega)
    have c2 : Toward.even.cut s n d ≤ 2 * f.binade := cut_even_le s b2
    -- the bound,in these units
    have hv : n * 2 ^ e ≤ rval f r * 2 ^ d := by
      have hx : n * 2 ^ e * 2 ^ (lp - p).toNat ≤ rval f r * 2 ^ d * 2 ^ (lp - p).toNat := by
        have e1 : n * 2 ^ e * 2 ^ (lp - p).toNat = (m * 2 ^ (p - lp).toNat) * 2 ^ d := by
          rw [← hn,Nat.mul_assoc,Nat.mul_assoc,Nat.mul_assoc,← Nat.pow_add,← Nat.pow_add,← Nat.pow_add]
          congr 2
          omega
        rw [e1]
        calc m * 2 ^ (p - lp).toNat * 2 ^ d ≤ rval f r * 2 ^ (lp - p).toNat * 2 ^ d := Nat.mul_le_mul_right _ h
          _ = rval f r * 2 ^ d * 2 ^ (lp - p).toNat := by rw [Nat.mul_assoc,Nat.mul_comm (2 ^ (lp - p).toNat),← Nat.mul_assoc]
      exact Nat.le_of_mul_le_mul_right hx (Nat.two_pow_pos _)
    -- r lies in the same binade or above
    have hr2 : (e + 1) * f.binade ≤ r := by
      refine Nat.le_of_not_lt fun hlt => ?_
      have h1 := rval_lt f hlt
      rw [Nat.succ_mul,rval_mul f e f.binade (Nat.le_refl _) (by omega)] at h1
      have h2 : f.binade * 2 ^ d * 2 ^ e ≤ rval f r * 2 ^ d := Nat.le_trans (Nat.mul_le_mul_right _ b1) hv
      have h3 : rval f r * 2 ^ d < f.binade * 2 ^ e * 2 ^ d := Nat.mul_lt_mul_of_pos_right h1 (Nat.two_pow_pos _)
      rw [Nat.mul_assoc,Nat.mul_comm (2 ^ d),← Nat.mul_assoc] at h2
      omega
    -- so it is a whole number of these units
    obtain ⟨N,hN⟩ : ∃ N,rval f r = N * 2 ^ e := by
      have hq : e + 1 ≤ r / f.binade := (Nat.le_div_iff_mul_le hb).2 hr2
      have hnl : ¬ r < f.binade := by rw [Nat.succ_mul] at hr2; have := Nat.zero_le (e * f.binade); omega
      refine ⟨(f.binade + r % f.binade) * 2 ^ (r / f.binade - 1 - e),?_⟩
      unfold rval
      rw [if_neg hnl,Nat.mul_assoc,← Nat.pow_add]
      congr 2
      omega
    have c1 : Toward.even.cut s n d ≤ N := by
      refine cut_even_le s ?_
      rw [hN,Nat.mul_assoc,Nat.mul_comm (2 ^ e),← Nat.mul_assoc] at hv
      exact Nat.le_of_mul_le_mul_right hv (Nat.two_pow_pos _)
    by_cases hk : f.binade ≤ Toward.even.cut s n d
    · refine Nat.le_of_not_lt fun hlt => ?_
      have h1 := rval_lt f hlt
      rw [rval_mul f e _ hk c2,hN] at h1
      have := Nat.lt_of_mul_lt_mul_right h1
      omega
    · rw [Nat.succ_mul] at hr2
      omega

abbrev F32 : Format := FloatKind.f32.format
theorem F_inf : F32.infRung = 2139095040 := by decide +kernel
theorem F_sw : F32.signWeight = 2147483648 := by decide +kernel
theorem F_lp : F32.leastPlace = -149 := by decide +kernel

def mg (a : Nat) : Nat := a % 2147483648
def Le (a r : Nat) : Prop := a % 2147483648 ≤ r
theorem word_mg (s : Bool) (q : Nat) (h : q ≤ 2139095040) : F32.word s q % 2147483648 = q := by
  have := (word_rung F32 s q (by rw [F_sw]; omega)).1
  rwa [F_sw] at this
theorem read_le {a r : Nat} (h : Le a r) (hr : r < 2139095040) : ∃ m i,F32.read a = .number (a / 2147483648 % 2 == 1) m i ∧ -149 ≤ i ∧ m * 2 ^ (i + 149).toNat = rval F32 (a % 2147483648) ∧ m * 2 ^ (i + 149).toNat ≤ rval F32 r := by
  unfold Le at h
  obtain ⟨m,i,h1,h2,h3⟩ := read_fin F32 a (by rw [F_sw,F_inf]; omega)
  rw [F_sw] at h1 h3
  rw [F_lp] at h2 h3
  rw [show i - -149 = i + 149 by omega] at h3
  refine ⟨m,i,h1,h2,h3,?_⟩
  rw [h3]
  rcases Nat.lt_or_eq_of_le h with h4 | h4
  · exact Nat.le_of_lt (rval_lt _ h4)
  · rw [h4]; exact Nat.le_refl _

theorem signed_abs (s : Bool) (m k : Nat) : (signed s m k).natAbs = m * 2 ^ k := by
  unfold signed
  rw [Nat.shiftLeft_eq]
  cases s
  · exact Int.natAbs_natCast _
  · show (-((m * 2 ^ k : Nat) : Int)).natAbs = _
    rw [Int.natAbs_neg,Int.natAbs_natCast]

theorem sum_le {a b r1 r2 r : Nat} (ha : Le a r1) (hb : Le b r2) (h1 : r1 < 2139095040) (h2 : r2 < 2139095040) (hr : r ≤ 2139095040) (h : rval F32 r1 + rval F32 r2 ≤ rval F32 r) : Le (fadd .f32 a b) r := by
  obtain ⟨m,i,e1,i1,_,v1⟩ := read_le ha h1
  obtain ⟨n,j,e2,i2,_,v2⟩ := read_le hb h2
  unfold fadd Format.add
  rw [e1,e2]
  simp only [Datum.sum,Option.map_some,Option.getD_some]
  unfold Format.write
  simp only
  obtain ⟨q,q1,q2⟩ := nearest_le F32 (if signed (a / 2147483648 % 2 == 1) m (i - min i j).toNat + signed (b / 2147483648 % 2 == 1) n (j - min i j).toNat = 0 then (a / 2147483648 % 2 == 1) && (b / 2147483648 % 2 == 1) else decide (signed (a / 2147483648 % 2 == 1) m (i - min i j).toNat + signed (b / 2147483648 % 2 == 1) n (j - min i j).toNat < 0)) (signed (a / 2147483648 % 2 == 1) m (i - min i j).toNat + signed (b / 2147483648 % 2 == 1) n (j - min i j).toNat).natAbs (min i j) r (by rw [F_inf]; exact hr) (by
    rw [F_lp]
    rw [show (min i j - -149) = min i j + 149 by omega,show (-149 - min i j).toNat = 0 by omega,Nat.pow_zero,Nat.mul_one]
    refine Nat.le_trans (Nat.mul_le_mul_right _ (Int.natAbs_add_le _ _)) ?_
    rw [signed_abs,signed_abs,Nat.add_mul,Nat.mul_assoc,Nat.mul_assoc,← Nat.pow_add,← Nat.pow_add]
    rw [show (i - min i j).toNat + (min i j + 149).toNat = (i + 149).toNat by omega,show (j - min i j).toNat + (min i j + 149).toNat = (j + 149).toNat by omega]
    omega)
  show F32.nearest _ _ _ % 2147483648 ≤ r
  rw [q2,word_mg _ _ (by omega)]
  exact q1

theorem prod_word {a b r1 r2 r : Nat} (ha : Le a r1) (hb : Le b r2) (h1 : r1 < 2139095040) (h2 : r2 < 2139095040) (hr : r ≤ 2139095040) (h : rval F32 r1 * rval F32 r2 ≤ rval F32 r * 2 ^ 149) : ∃ q,q ≤ r ∧ fmul .f32 a b = F32.word ((a / 2147483648 % 2 == 1) ^^ (b / 2147483648 % 2 == 1)) q := by
  obtain ⟨m,i,e1,i1,_,v1⟩ := read_le ha h1
  obtain ⟨n,j,e2,i2,_,v2⟩ := read_le hb h2
  unfold fmul Format.mul
  rw [e1,e2]
  simp only [Datum.product,Option.map_some,Option.getD_some]
  unfold Format.write
  simp only
  have hv : m * n * 2 ^ ((i + 149).toNat + (j + 149).toNat) ≤ rval F32 r * 2 ^ 149 := by
    refine Nat.le_trans ?_ (Nat.le_trans (Nat.mul_le_mul v1 v2) h)
    rw [Nat.pow_add]
    exact Nat.le_of_eq (by rw [Nat.mul_mul_mul_comm])
  refine nearest_le F32 ((a / 2147483648 % 2 == 1) ^^ (b / 2147483648 % 2 == 1)) (m * n) (i + j) r (by rw [F_inf]; exact hr) ?_
  rw [F_lp]
  by_cases hij : -149 ≤ i + j
  · rw [show (-149 - (i + j)).toNat = 0 by omega,Nat.pow_zero,Nat.mul_one]
    have e : (i + 149).toNat + (j + 149).toNat = (i + j - -149).toNat + 149 := by omega
    rw [e,Nat.pow_add,← Nat.mul_assoc] at hv
    exact Nat.le_of_mul_le_mul_right hv (Nat.two_pow_pos _)
  · rw [show (i + j - -149).toNat = 0 by omega,Nat.pow_zero,Nat.mul_one]
    obtain ⟨k,hk⟩ : ∃ k,(i + 149).toNat + (j + 149).toNat = k := ⟨_,rfl⟩
    have e : 149 = (-149 - (i + j)).toNat + k := by omega
    rw [hk] at hv
    rw [show (2 : Nat) ^ 149 = 2 ^ ((-149 - (i + j)).toNat + k) from congrArg _ e,Nat.pow_add,← Nat.mul_assoc] at hv
    exact Nat.le_of_mul_le_mul_right hv (Nat.two_pow_pos _)
theorem sgn_pos {a : Nat} (h : a < 2147483648) : (a / 2147483648 % 2 == 1) = false := by
  rw [Nat.div_eq_of_lt h]; rfl
theorem le_of_pos {a r : Nat} (h : a ≤ r) (hr : r ≤ 2139095040) : Le a r := by
  unfold Le; rw [Nat.mod_eq_of_lt (by omega)]; exact h
theorem prod_pos {a b r1 r2 r : Nat} (ha : a ≤ r1) (hb : b ≤ r2) (h1 : r1 < 2139095040) (h2 : r2 < 2139095040) (hr : r ≤ 2139095040) (h : rval F32 r1 * rval F32 r2 ≤ rval F32 r * 2 ^ 149) : fmul .f32 a b ≤ r := by
  obtain ⟨q,q1,q2⟩ := prod_word (le_of_pos ha (by omega)) (le_of_pos hb (by omega)) h1 h2 hr h
  rw [q2,sgn_pos (a := a) (by omega),sgn_pos (a := b) (by omega)]
  exact q1
theorem sum_pos {a b r1 r2 r : Nat} (ha : a ≤ r1) (hb : b ≤ r2) (h1 : r1 < 2139095040) (h2 : r2 < 2139095040) (hr : r ≤ 2139095040) (h : rval F32 r1 + rval F32 r2 ≤ rval F32 r) : fadd .f32 a b ≤ r := by
  have g1 := sum_le (le_of_pos ha (by omega)) (le_of_pos hb (by omega)) h1 h2 hr h
  have g2 := fadd_pos (a := a) (b := b) (by omega) (by omega)
  unfold Le at g1
  rwa [Nat.mod_eq_of_lt (by omega)] at g1
end Go.Ab

namespace Go.Ab
open Ieee

theorem nan_read {k : FloatKind} {a : Nat} (h : isN k a = true) : ∃ s t,k.format.read a = .nan s t := by
  unfold isN at h
  cases e : k.format.read a with
  | nan s t => exact ⟨s,t,rfl⟩
  | number s m i => rw [e] at h; cases h
  | infinity s => rw [e] at h; cases h
theorem order_nan_l {k : FloatKind} {a : Nat} (h : isN k a = true) (b : Nat) : k.format.order a b = none := by
  obtain ⟨s,t,e⟩ := nan_read h
  unfold Format.order
  rw [e]; cases k.format.read b <;> rfl
theorem order_nan_r {k : FloatKind} {b : Nat} (h : isN k b = true) (a : Nat) : k.format.order a b = none := by
  obtain ⟨s,t,e⟩ := nan_read h
  unfold Format.order
  rw [e]; cases k.format.read a <;> rfl
theorem fgt_flt (k : FloatKind) (a b : Nat) : fgt k a b = flt k b a := by
  cases ha : isN k a with
  | true => unfold fgt flt; rw [order_nan_l ha,order_nan_r ha]; rfl
  | false =>
    cases hb : isN k b with
    | true => unfold fgt flt; rw [order_nan_l hb,order_nan_r hb]; rfl
    | false => rw [fgt_key k a b ha hb,flt_key k b a hb ha]
theorem flt_nan_l {a b : Nat} (h : isN .f32 a = true) : flt .f32 a b = false := by unfold flt; rw [order_nan_l h]; rfl
theorem fgt_nan_l {a b : Nat} (h : isN .f32 a = true) : fgt .f32 a b = false := by unfold fgt; rw [order_nan_l h]; rfl
theorem feq_nan_l {a b : Nat} (h : isN .f32 a = true) : feq .f32 a b = false := by unfold feq; rw [order_nan_l h]; rfl

def Nn (a : Nat) : Prop := a % 2147483648 ≤ 2139095040
def Fi (a : Nat) : Prop := a % 2147483648 < 2139095040
theorem Fi.nn {a : Nat} (h : Fi a) : Nn a := Nat.le_of_lt h
theorem nn_isN {a : Nat} : isN .f32 a = false ↔ Nn a := by
  rw [isN32]; unfold Nn; rw [decide_eq_false_iff_not]; omega
theorem flt_of {a b : Nat} (ha : Nn a) (hb : Nn b) (a2 : a < 4294967296) (b2 : b < 4294967296) : flt .f32 a b = decide ((if 2147483648 ≤ a then 2147483648 - (a : Int) else a) < (if 2147483648 ≤ b then 2147483648 - (b : Int) else b)) := by
  rw [flt_key .f32 a b (nn_isN.2 ha) (nn_isN.2 hb),key32 a a2,key32 b b2]
theorem feq_of {a b : Nat} (ha : Nn a) (hb : Nn b) (a2 : a < 4294967296) (b2 : b < 4294967296) : feq .f32 a b = decide ((if 2147483648 ≤ a then 2147483648 - (a : Int) else a) = (if 2147483648 ≤ b then 2147483648 - (b : Int) else b)) := by
  rw [feq_key .f32 a b (nn_isN.2 ha) (nn_isN.2 hb),key32 a a2,key32 b b2]
theorem cut_even_ge (s : Bool) {n d N : Nat} (h : N * 2 ^ d ≤ n) : N ≤ Toward.even.cut s n d := by
  unfold Toward.cut
  simp only [Nat.one_shiftLeft]
  by_cases hd : d ≤ n.log2 + 2
  · rw [Nat.min_eq_left hd]
    exact Nat.le_trans ((Nat.le_div_iff_mul_le (Nat.two_pow_pos _)).2 h) (Nat.le_add_right _ _)
  · have hlt : n < 2 ^ (n.log2 + 1) := Nat.lt_log2_self
    have : N = 0 := by
      refine Nat.eq_zero_of_not_pos fun hp => ?_
      have h1 : 2 ^ (n.log2 + 1) ≤ 2 ^ d := Nat.pow_le_pow_right (by decide) (by omega)
      have h2 : 1 * 2 ^ d ≤ N * 2 ^ d := Nat.mul_le_mul_right _ hp
      omega
    rw [this]; exact Nat.zero_le _
theorem nearest_ge (f : Format) (s : Bool) (m : Nat) (p : Int) (r : Nat) (hr : r ≤ f.infRung) (h : rval f r * 2 ^ (f.leastPlace - p).toNat ≤ m * 2 ^ (p - f.leastPlace).toNat) :
    ∃ q,r ≤ q ∧ f.nearest s m p = f.word s q := by
  have hb : 0 < f.binade := Nat.two_pow_pos _
  unfold Format.nearest
  by_cases h0 : m = 0
  · rw [if_pos h0]
    rw [h0,Nat.zero_mul] at h
    have hz : rval f r = 0 := (Nat.mul_eq_zero.1 (Nat.le_zero.1 h)).resolve_right (Nat.ne_of_gt (Nat.two_pow_pos _))
    have : r = 0 := rval_inj f (hz.trans (rval_zero f).symm)
    exact ⟨0,Nat.le_of_eq this,rfl⟩
  rw [if_neg h0]
  simp only
  refine ⟨_,?_,rfl⟩
  refine Nat.le_min.2 ⟨?_,hr⟩
  have hL1 : 2 ^ m.log2 ≤ m := Nat.log2_self_le h0
  have hL2 : m < 2 ^ (m.log2 + 1) := Nat.lt_log2_self
  generalize m.log2 = L at *
  generalize hlp : f.leastPlace = lp at *
  have hB : f.binade = 2 ^ f.fractionBits := rfl
  generalize hfb : f.fractionBits = fb at *
  by_cases hlast : p + (L : Int) - fb ≤ lp
  · rw [Int.max_eq_right hlast]
    have e0 : (lp - lp).toNat = 0 := by omega
    rw [e0,Nat.zero_mul,Nat.zero_add,Nat.shiftLeft_eq]
    have k1 : rval f r ≤ Toward.even.cut s (m * 2 ^ (p - lp).toNat) (lp - p).toNat := cut_even_ge s h
    have k2 : Toward.even.cut s (m * 2 ^ (p - lp).toNat) (lp - p).toNat ≤ 2 * f.binade := by
      refine cut_even_le s ?_
      rw [hB,← Nat.pow_succ',← Nat.pow_add]
      refine Nat.le_of_lt (Nat.lt_of_lt_of_le (Nat.mul_lt_mul_of_pos_right hL2 (Nat.two_pow_pos _)) ?_)
      rw [← Nat.pow_add]
      exact Nat.pow_le_pow_right (by decide) (by omega)
    refine Nat.le_of_not_lt fun hlt => ?_
    have := rval_lt f hlt
    rw [rval_small f _ k2] at this
    omega
  · rw [Int.max_eq_left (by omega)]
    obtain ⟨e,he⟩ : ∃ e : Nat,(p + (L : Int) - fb - lp).toNat = e := ⟨_,rfl⟩
    rw [he,Nat.shiftLeft_eq]
    have hepos : 0 < e := by omega
    generalize hn : m * 2 ^ (p - (p + (L : Int) - fb)).toNat = n at *
    generalize hd : (p + (L : Int) - fb - p).toNat = d at *
    have b1 : f.binade * 2 ^ d ≤ n := by
      rw [← hn,hB,← Nat.pow_add]
      refine Nat.le_trans (Nat.pow_le_pow_right (by decide) (show fb + d ≤ L + (p - (p + (L : Int) - fb)).toNat by omega)) ?_
      rw [Nat.pow_add]
      exact Nat.mul_le_mul_right _ hL1
    have b2 : n ≤ 2 * f.binade * 2 ^ d := by
      rw [← hn,hB,← Nat.pow_succ',← Nat.pow_add]
      refine Nat.le_of_lt (Nat.lt_of_lt_of_le (Nat.mul_lt_mul_of_pos_right hL2 (Nat.two_pow_pos _)) ?_)
      rw [← Nat.pow_add]
      exact Nat.pow_le_pow_right (by decide) (by omega)
    have c2 : Toward.even.cut s n d ≤ 2 * f.binade := cut_even_le s b2
    have c1 : f.binade ≤ Toward.even.cut s n d := cut_even_ge s b1
    have hv : rval f r * 2 ^ d ≤ n * 2 ^ e := by
      have hx : rval f r * 2 ^ d * 2 ^ (lp - p).toNat ≤ n * 2 ^ e * 2 ^ (lp - p).toNat := by
        have e1 : n * 2 ^ e * 2 ^ (lp - p).toNat = (m * 2 ^ (p - lp).toNat) * 2 ^ d := by
          rw [← hn,Nat.mul_assoc,Nat.mul_assoc,Nat.mul_assoc,← Nat.pow_add,← Nat.pow_add,← Nat.pow_add]
          congr 2
          omega
        rw [e1]
        calc rval f r * 2 ^ d * 2 ^ (lp - p).toNat = rval f r * 2 ^ (lp - p).toNat * 2 ^ d := by rw [Nat.mul_assoc,Nat.mul_comm (2 ^ d),← Nat.mul_assoc]
          _ ≤ m * 2 ^ (p - lp).toNat * 2 ^ d := Nat.mul_le_mul_right _ h
      exact Nat.le_of_mul_le_mul_right hx (Nat.two_pow_pos _)
    refine Nat.le_of_not_lt fun hlt => ?_
    have h1 := rval_lt f hlt
    rw [rval_mul f e _ c1 c2] at h1
    have hr2 : (e + 1) * f.binade ≤ r := by rw [Nat.succ_mul]; omega
    obtain ⟨N,hN⟩ : ∃ N,rval f r = N * 2 ^ e := by
      have hq : e + 1 ≤ r / f.binade := (Nat.le_div_iff_mul_le hb).2 hr2
      have hnl : ¬ r < f.binade := by rw [Nat.succ_mul] at hr2; have := Nat.zero_le (e * f.binade); omega
      refine ⟨(f.binade + r % f.binade) * 2 ^ (r / f.binade - 1 - e),?_⟩
      unfold rval
      rw [if_neg hnl,Nat.mul_assoc,← Nat.pow_add]
      congr 2
      omega
    rw [hN] at h1 hv
    have h2 : N ≤ Toward.even.cut s n d := by
      refine cut_even_ge s ?_
      rw [Nat.mul_assoc,Nat.mul_comm (2 ^ e),← Nat.mul_assoc] at hv
      exact Nat.le_of_mul_le_mul_right hv (Nat.two_pow_pos _)
    have := Nat.lt_of_mul_lt_mul_right h1
    omega
theorem Le.mono {a r s : Nat} (h : Le a r) (hs : r ≤ s) : Le a s := Nat.le_trans h hs
theorem Le.fi {a r : Nat} (h : Le a r) (hs : r < 2139095040) : Fi a := Nat.lt_of_le_of_lt h hs
end Go.Ab
