/- Chimneys: sizes, copies, sameness, validity. -/
import Derived.Test.YtmknfenjnladeaaJo15
import Derived.Test.YtmknfenjnladeaaA31
import Derived.Test.YtmknfenjnladeaaA32
import Derived.Test.YtmknfenjnladeaaA26
namespace Go.Proofs.Ytmknfenjnladeaa
open Go.Ab

abbrev S5 : List CT := [.fl .f32, .fl .f32, .fl .f32, .fl .f32, .int .i64]
/-- a cell of a table -/
@[reducible] def fc (t : List (List Int)) (i j : Nat) : Nat := Int.toNat ((t.getD i []).getD j 0)
@[reducible] def ic (t : List (List Int)) (i j : Nat) : Int := (t.getD i []).getD j 0
theorem fc_lt {s : List CT} {t : List (List Int)} (h : RowsOk s t) {i j : Nat} (hi : i < t.length) (hj : s[j]? = some (.fl .f32)) : fc t i j < 4294967296 := CTok.lt32 ((h.get hi).get hj)
/-! ### sizes and copies -/
/-! ### itself -/
theorem bne_len {a b : Nat} : (((a : Nat) : Int) != ((b : Nat) : Int)) = !decide (b = a) := by
  by_cases h : b = a
  · subst h; simp
  · rw [decide_eq_false h]
    simp only [bne, Bool.not_false, Bool.not_eq_true', beq_eq_false_iff_ne]
    omega
/-! ### numbers -/
theorem fin_spec (d : Nat) : r147 d = decide (d % 2147483648 < 2139095040) := finite_sub d
theorem fin_impl (d : Nat) : r59 d = decide (d % 2147483648 < 2139095040) := by
  have e : r127 (widen d) 0 = decide (d % 2147483648 = 2139095040) := abs_top d
  have e56 : r59 d = cond (r126 (widen d)) false (cond (r127 (widen d) 0) false true) := by
    unfold r59 r59l0b
    cases r126 (widen d) <;> cases r127 (widen d) 0 <;> rfl
  rw [e56]
  unfold r126
  rw [e, feq_self, isN_widen, isN32]
  by_cases h1 : 2139095040 < d % 2147483648
  · have h2 : ¬ (d % 2147483648 < 2139095040) := by omega
    simp [h1, h2]
  · by_cases h2 : d % 2147483648 = 2139095040
    · simp [h2]
    · have h3 : d % 2147483648 < 2139095040 := by omega
      simp [h1, h2, h3]
theorem amount_eq (d : Nat) (h : d < 4294967296) : r148 d = decide (d < 2139095040) ∧ r142 d = decide (d < 2139095040) := by
  unfold r148 r142
  rw [fin_spec, fin_impl]
  by_cases h1 : d % 2147483648 < 2139095040
  · have hn : isN .f32 d = false := by rw [isN32, decide_eq_false_iff_not]; omega
    have z : isN .f32 0 = false := by decide
    rw [decide_eq_true h1]
    rw [fgt_key .f32 d _ hn z, feq_key .f32 d _ hn z, key32 d h, key32 0 (by decide)]
    have e31 : (min (31 : Int).toNat (IntKind.bits .u32)) = 31 := by decide
    have ef : Int.fdiv (d : Int) (2 ^ 31) = ((d / 2147483648 : Nat) : Int) := by
      rw [Int.fdiv_eq_ediv_of_nonneg _ (by decide)]; rfl
    rw [e31, ef]
    by_cases h2 : 2147483648 ≤ d
    · have g1 : ¬ d < 2139095040 := by omega
      have g2 : d / 2147483648 = 1 := by omega
      have g3 : ((d : Int) == 0) = false := by rw [beq_eq_false_iff_ne]; omega
      have g4 : ¬ ((d : Int) < 2147483648) := by omega
      simp only [if_pos h2, g2]
      simp [g1, g3, g4, hn]
    · have g1 : d < 2139095040 := by omega
      have g2 : d / 2147483648 = 0 := by omega
      simp only [if_neg h2, g2]
      by_cases h3 : d = 0
      · subst h3; simp [hn]
      · have g5 : 0 < d := by omega
        simp [g1, g5]
  · have g1 : ¬ d < 2139095040 := by omega
    rw [decide_eq_false h1, decide_eq_false g1]
    exact ⟨rfl, rfl⟩
theorem hot_eq (a : Nat) : r150 a = r146 a 3262119936 1153138688 := rfl
theorem out_eq (a : Nat) : r98 a = r81 a := rfl
theorem push_eq (a : Nat) : r128 a = r124 a := rfl
theorem share_eq (a : Nat) (h : a < 4294967296) : r167 a = r78 a := by
  unfold r167 r78
  rw [(amount_eq a h).1, (amount_eq a h).2]
/-! ### validity -/
noncomputable def flueB (t : List (List Int)) (i : Nat) : Bool := r107 (fc t i 0) (fc t i 1) (fc t i 2) (fc t i 3) (ic t i 4)
theorem flueS {t : List (List Int)} (h : RowsOk S5 t) {i : Nat} (hi : i < t.length) : r149 i t = (0, flueB t i) := by
  unfold r149 flueB r107
  rw [blt_t hi, (amount_eq _ (fc_lt h hi (j := 0) rfl)).1, (amount_eq _ (fc_lt h hi (j := 0) rfl)).2, (amount_eq _ (fc_lt h hi (j := 1) rfl)).1, (amount_eq _ (fc_lt h hi (j := 1) rfl)).2, hot_eq, share_eq _ (fc_lt h hi (j := 3) rfl)]
  cases decide (fc t i 0 < 2139095040) with
  | false => rfl
  | true =>
  unfold r146
  cases (fgt .f32 (fc t i 0) 1031798784 || feq .f32 (fc t i 0) 1031798784) with
  | false => rfl
  | true =>
  cases (flt .f32 (fc t i 0) 1106247680 || feq .f32 (fc t i 0) 1106247680) with
  | false => rfl
  | true =>
  cases decide (fc t i 1 < 2139095040) with
  | false => rfl
  | true =>
  cases (fgt .f32 (fc t i 1) 1015021568 || feq .f32 (fc t i 1) 1015021568) with
  | false => rfl
  | true =>
  cases (flt .f32 (fc t i 1) 1082130432 || feq .f32 (fc t i 1) 1082130432) with
  | false => rfl
  | true =>
  cases (fgt .f32 (fc t i 2) 3262119936 || feq .f32 (fc t i 2) 3262119936) with
  | false => rfl
  | true => cases (flt .f32 (fc t i 2) 1153138688 || feq .f32 (fc t i 2) 1153138688) <;> rfl
/-- where a flue leads -/
noncomputable def intoB (t : List (List Int)) (i : Nat) : Bool := decide (ic t i 4 = -1) || (decide (0 ≤ ic t i 4 ∧ ic t i 4 < t.length ∧ ic t i 4 ≠ i) && decide (ic t (ic t i 4).toNat 4 = -1))
noncomputable def pC (t : List (List Int)) (i : Nat) : Bool := flueB t i && intoB t i
theorem loopS {t : List (List Int)} (h : RowsOk S5 t) (hl : t.length ≤ 1048576) {fuel : Nat} (hf : t.length < fuel) : r97l0 fuel ((t.length : Nat) : Int) 0 t = cond (allN t.length (pC t)) 1 0 := by
  refine all_loop (n := t.length) (p := pC t) (yes := 1) (no := 0) (G := fun m i => r97l0 m ((t.length : Nat) : Int) i t) ?_ ?_ hf
  · intro m
    show b97l0 (r97l0 m) _ _ _ = _
    unfold b97l0
    rw [dlt_f (Nat.lt_irrefl _)]; rfl
  · intro m i hi
    show b97l0 (r97l0 m) _ _ _ = _
    unfold b97l0 pC intoB
    rw [dlt_t hi, dle0, Int.toNat_natCast, blt_t hi, wrap_succ (by omega), flueS h hi]
    cases flueB t i with
    | false => rfl
    | true =>
    have hw : IntKind.i64.wrap (((t.length : Nat) : Int) - 1) = (t.length : Int) - 1 := wrap_i64 (by omega) (by omega)
    rw [hw]
    show cond (ic t i 4 == -1) _ (cond (!(r66 (ic t i 4) 0 _)) 0 (cond (ic t i 4 == (i : Int)) 0 _)) = _
    unfold r66
    by_cases h1 : ic t i 4 = -1
    · rw [h1]; rfl
    · rw [show (ic t i 4 == -1) = false from beq_eq_false_iff_ne.2 h1, decide_eq_false h1]
      by_cases h2 : 0 ≤ ic t i 4 ∧ ic t i 4 < t.length ∧ ic t i 4 ≠ i
      · rw [decide_eq_true h2, decide_eq_true (show ic t i 4 ≥ 0 from h2.1), decide_eq_true (show ic t i 4 ≤ (t.length : Int) - 1 by omega), show (ic t i 4 == (i : Int)) = false from beq_eq_false_iff_ne.2 h2.2.2, blt_t (show (ic t i 4).toNat < t.length by omega)]
        show cond (ic t (ic t i 4).toNat 4 != -1) _ _ = _
        by_cases h3 : ic t (ic t i 4).toNat 4 = -1
        · rw [h3]; rfl
        · rw [decide_eq_false h3, show (ic t (ic t i 4).toNat 4 != -1) = true from bne_iff_ne.2 h3]; rfl
      · rw [decide_eq_false h2]
        by_cases h3 : ic t i 4 ≥ 0
        · rw [decide_eq_true h3]
          by_cases h4 : ic t i 4 ≤ (t.length : Int) - 1
          · rw [decide_eq_true h4]
            have h5 : ic t i 4 = i := by omega
            rw [h5, beq_self_eq_true]; rfl
          · rw [decide_eq_false h4]; rfl
        · rw [decide_eq_false h3]; rfl
theorem loopI {t : List (List Int)} (hl : t.length ≤ 1048576) {fuel : Nat} (hf : t.length < fuel) : r45l0 fuel ((t.length : Nat) : Int) 0 t = cond (allN t.length (pC t)) 1 0 := by
  refine all_loop (n := t.length) (p := pC t) (yes := 1) (no := 0) (G := fun m i => r45l0 m ((t.length : Nat) : Int) i t) ?_ ?_ hf
  · intro m
    show b45l0 (r45l0 m) _ _ _ = _
    unfold b45l0
    rw [dlt_f (Nat.lt_irrefl _)]; rfl
  · intro m i hi
    show b45l0 (r45l0 m) _ _ _ = _
    unfold b45l0 pC intoB
    simp only [Int.toNat_natCast]
    rw [dlt_t hi, dle0, blt_t hi, wrap_succ (by omega), show r107 (fc t i 0) (fc t i 1) (fc t i 2) (fc t i 3) (ic t i 4) = flueB t i from rfl]
    cases flueB t i with
    | false => rfl
    | true =>
    show cond (ic t i 4 == -1) _ (cond (decide (ic t i 4 < 0)) 0 (cond (decide (ic t i 4 ≥ (t.length : Int))) 0 (cond (ic t i 4 == (i : Int)) 0 _))) = _
    by_cases h1 : ic t i 4 = -1
    · rw [h1]; rfl
    · rw [show (ic t i 4 == -1) = false from beq_eq_false_iff_ne.2 h1, decide_eq_false h1]
      by_cases h2 : 0 ≤ ic t i 4 ∧ ic t i 4 < t.length ∧ ic t i 4 ≠ i
      · rw [decide_eq_true h2, decide_eq_false (show ¬ ic t i 4 < 0 by omega), decide_eq_false (show ¬ ic t i 4 ≥ (t.length : Int) by omega), show (ic t i 4 == (i : Int)) = false from beq_eq_false_iff_ne.2 h2.2.2, decide_eq_true h2.1, blt_t (show (ic t i 4).toNat < t.length by omega)]
        show cond (ic t (ic t i 4).toNat 4 != -1) _ _ = _
        by_cases h3 : ic t (ic t i 4).toNat 4 = -1
        · rw [h3]; rfl
        · rw [decide_eq_false h3, show (ic t (ic t i 4).toNat 4 != -1) = true from bne_iff_ne.2 h3]; rfl
      · rw [decide_eq_false h2]
        by_cases h3 : ic t i 4 < 0
        · rw [decide_eq_true h3]; rfl
        · rw [decide_eq_false h3]
          by_cases h4 : ic t i 4 ≥ (t.length : Int)
          · rw [decide_eq_true h4]; rfl
          · rw [decide_eq_false h4]
            have h5 : ic t i 4 = i := by omega
            rw [h5, beq_self_eq_true]; rfl
/-- a flue that is valid -/
structure FlueOk (H W T D : Nat) : Prop where
  h : H < 2139095040
  w : W < 2139095040
  d : D ≤ 1065353216
  h1 : sv 1031798784 ≤ sv H
  h2 : sv H ≤ sv 1106247680
  w1 : sv 1015021568 ≤ sv W
  w2 : sv W ≤ sv 1082130432
  tn : Nn T
  t0 : T < 4294967296
  t1 : sv 3262119936 ≤ sv T
  t2 : sv T ≤ sv 1153138688
/-- a chimney that is valid -/
structure ChOk (t : List (List Int)) : Prop where
  rows : RowsOk S5 t
  n1 : 1 ≤ t.length
  n2 : t.length ≤ 6
  flue : ∀ i, i < t.length → FlueOk (fc t i 0) (fc t i 1) (fc t i 2) (fc t i 3)
  into : ∀ i, i < t.length → ic t i 4 = -1 ∨ (0 ≤ ic t i 4 ∧ ic t i 4 < t.length ∧ ic t i 4 ≠ i ∧ ic t (ic t i 4).toNat 4 = -1)
/-- what a heat outside and a wind may be -/
structure WOk (o w : Nat) : Prop where
  on : Nn o
  o0 : o < 4294967296
  o1 : sv 3262119936 ≤ sv o
  o2 : sv o ≤ sv 1114636288
  wn : Nn w
  w0 : w < 4294967296
  w1 : sv 3296329728 ≤ sv w
  w2 : sv w ≤ sv 1148846080
end Go.Proofs.Ytmknfenjnladeaa

namespace Go.Proofs.Ytmknfenjnladeaa
open Go.Ab Ieee

theorem mul_bd {A B a b : Int} (h1 : -a ≤ A) (h2 : A ≤ a) (h3 : -b ≤ B) (h4 : B ≤ b) : -(a * b) ≤ A * B ∧ A * B ≤ a * b := by
  have e : ((A * B).natAbs : Int) ≤ a * b := by
    rw [Int.natAbs_mul, Int.natCast_mul]
    exact Int.mul_le_mul (by omega) (by omega) (by omega) (by omega)
  omega
theorem Fr_ub {a d c : Nat} {n v : Int} (h : Fr a n d) (hc : c < 2139095040) (ev : sv c = v) (g : n ≤ v * d) : sv a ≤ v := by
  rw [sv_pos (by omega)] at ev
  rw [← ev] at g ⊢
  exact h.le c hc g
theorem Fr_lb {a d c : Nat} {n v : Int} (h : Fr a n d) (hc : c < 2139095040) (ev : sv c = v) (g : v * d ≤ n) : v ≤ sv a := by
  rw [sv_pos (by omega)] at ev
  rw [← ev] at g ⊢
  exact h.ge c hc g
theorem Fr_lbn {a d c : Nat} {n v : Int} (h : Fr a n d) (hc : c < 2139095040) (ev : sv c = v) (g : -(v * d) ≤ n) : -v ≤ sv a := by
  rw [sv_pos (by omega)] at ev
  rw [← ev] at g ⊢
  exact h.ge' c hc g
/-! ### some numbers -/
theorem c0 : sv 0 = 0 := by decide +kernel
theorem cm60 : sv 3262119936 = -(60 * 2 ^ 149) := by decide +kernel
theorem c1500 : sv 1153138688 = 1500 * 2 ^ 149 := by decide +kernel
theorem c60 : sv 1114636288 = 60 * 2 ^ 149 := by decide +kernel
theorem cm1000 : sv 3296329728 = -(1000 * 2 ^ 149) := by decide +kernel
theorem c1000 : sv 1148846080 = 1000 * 2 ^ 149 := by decide +kernel
theorem c2000 : sv 1157234688 = 2000 * 2 ^ 149 := by decide +kernel
theorem c273 : sv 1133019136 = 273 * 2 ^ 149 := by decide +kernel
theorem c353 : sv 1135640576 = 353 * 2 ^ 149 := by decide +kernel
theorem c213 : sv 1129644032 = 213 * 2 ^ 149 := by decide +kernel
theorem c1773 : sv 1155375104 = 1773 * 2 ^ 149 := by decide +kernel
theorem c2 : sv 1073741824 = 2 * 2 ^ 149 := by decide +kernel
theorem c1 : sv 1065353216 = 2 ^ 149 := by decide +kernel
theorem c4 : sv 1082130432 = 4 * 2 ^ 149 := by decide +kernel
theorem c8 : sv 1090519040 = 8 * 2 ^ 149 := by decide +kernel
theorem c16 : sv 1098907648 = 16 * 2 ^ 149 := by decide +kernel
theorem c30 : sv 1106247680 = 30 * 2 ^ 149 := by decide +kernel
theorem c512 : sv 1140850688 = 512 * 2 ^ 149 := by decide +kernel
theorem c1024 : sv 1149239296 = 1024 * 2 ^ 149 := by decide +kernel
theorem c4096 : sv 1166016512 = 4096 * 2 ^ 149 := by decide +kernel
theorem c16th : sv 1031798784 = 2 ^ 145 := by decide +kernel
theorem c975 : 4 * sv 1092354048 = 39 * 2 ^ 149 := by decide +kernel
theorem c05 : sv 1056964608 = 2 ^ 148 := by decide +kernel
theorem cFM : 2 ^ 200 ≤ FM := by decide +kernel
theorem nn_fi {a : Nat} (h : Nn a) (h2 : a < 4294967296) {v : Int} (h3 : -v ≤ sv a) (h4 : sv a ≤ v) (hv : v ≤ FM) : Fi a := by
  unfold Nn at h
  unfold Fi
  have e := sv_abs a
  have g : ((rval F32 (a % 2147483648) : Nat) : Int) ≤ ((rval F32 2139095039 : Nat) : Int) := by
    show _ ≤ FM
    rw [← e]; omega
  have := rv_le_iff.1 (Int.ofNat_le.1 g)
  omega
theorem dns {a : Nat} (h1 : Fi a) (h2 : -(60 * 2 ^ 149) ≤ sv a) (h3 : sv a ≤ 1500 * 2 ^ 149) : Fi (r170 a) ∧ 0 ≤ sv (r170 a) ∧ sv (r170 a) ≤ 2 * 2 ^ 149 := by
  have f := cFM
  have a1 := add_fr h1 (b := 1133019136) (by unfold Fi; decide) (by rw [c273]; omega) (by rw [c273]; omega)
  rw [c273] at a1
  have l1 := Fr_lb a1 (by decide) c213 (by omega)
  have l2 := Fr_ub a1 (by decide) c1773 (by omega)
  unfold r170
  generalize fadd .f32 a 1133019136 = b at *
  have d1 := div_fr (a := 1135640576) (b := b) (by unfold Fi; decide) a1.fi (by omega) (by
    rw [c353]
    refine Int.le_trans ?_ (Int.mul_le_mul_of_nonneg_right f (by omega))
    refine Int.le_trans ?_ (Int.mul_le_mul_of_nonneg_left l1 (by decide))
    decide) (by
    rw [c353]
    have := Int.mul_nonneg (show 0 ≤ FM by omega) (show 0 ≤ sv b by omega)
    refine Int.le_trans (show -(FM * sv b) ≤ 0 by omega) ?_
    decide)
  rw [c353] at d1
  refine ⟨d1.fi, Fr_lb d1 (c := 0) (by decide) c0 (by rw [Int.zero_mul]; decide), Fr_ub d1 (by decide) c2 ?_⟩
  rw [Int.toNat_of_nonneg (by omega)]
  refine Int.le_trans ?_ (Int.mul_le_mul_of_nonneg_left l1 (by decide))
  decide
section
variable {H W T D o : Nat} (hf : FlueOk H W T D) (h3 : Nn o) (h0 : o < 4294967296) (h1 : sv 3262119936 ≤ sv o) (h2 : sv o ≤ sv 1114636288) (e : Int)
include hf h3 h0 h1 h2
theorem drf_ok : Fi (r159 H W T D e o) ∧ -(1024 * 2 ^ 149) ≤ sv (r159 H W T D e o) ∧ sv (r159 H W T D e o) ≤ 1024 * 2 ^ 149 := by
  have f := cFM
  have t1 := hf.t1
  have t2 := hf.t2
  have q1 := hf.h1
  have q2 := hf.h2
  rw [cm60] at h1 t1
  rw [c60] at h2
  rw [c1500] at t2
  rw [c16th] at q1
  rw [c30] at q2
  obtain ⟨a1, a2, a3⟩ := dns (a := o) (nn_fi h3 h0 (v := 60 * 2 ^ 149) (by omega) (by omega) (by omega)) (by omega) (by omega)
  obtain ⟨b1, b2, b3⟩ := dns (a := T) (nn_fi hf.tn hf.t0 (v := 1500 * 2 ^ 149) (by omega) (by omega) (by omega)) (by omega) (by omega)
  unfold r159
  generalize r170 o = x at *
  generalize r170 T = y at *
  have s1 := sub_fr a1 b1 (by omega) (by omega)
  have s2 := Fr_ub s1 (by decide) c2 (by omega)
  have s3 := Fr_lbn s1 (by decide) c2 (by omega)
  generalize fsub .f32 x y = z at *
  have k := c975
  have m1 := mul_fr (a := 1092354048) (b := H) (by unfold Fi; decide) (by have := hf.h; unfold Fi; omega) (by
    have : sv 1092354048 = 39 * 2 ^ 147 := by omega
    rw [this]; omega) (by
    have : sv 1092354048 = 39 * 2 ^ 147 := by omega
    rw [this]; omega)
  have k' : sv 1092354048 = 39 * 2 ^ 147 := by omega
  rw [k'] at m1
  have m2 := Fr_ub m1 (by decide) c512 (by
    have : ((2 ^ 149 : Nat) : Int) = 2 ^ 149 := by rw [Int.natCast_pow]; rfl
    rw [this]; omega)
  have m3 := Fr_lb m1 (c := 0) (by decide) c0 (by omega)
  generalize fmul .f32 1092354048 H = u at *
  have bd := mul_bd (A := sv u) (B := sv z) (a := 512 * 2 ^ 149) (b := 2 * 2 ^ 149) (by omega) (by omega) (by omega) (by omega)
  have n1 := mul_fr m1.fi s1.fi (by omega) (by omega)
  have cc : ((2 ^ 149 : Nat) : Int) = 2 ^ 149 := by rw [Int.natCast_pow]; rfl
  refine ⟨n1.fi, Fr_lbn n1 (by decide) c1024 (by rw [cc]; omega), Fr_ub n1 (by decide) c1024 (by rw [cc]; omega)⟩
end
theorem rung_le {a r : Nat} (ha : a < 2139095040) (hr : r < 2139095040) (h : sv a ≤ sv r) : a ≤ r := by
  rw [sv_pos (by omega), sv_pos (by omega)] at h
  exact rv_le_iff.1 (by omega)
theorem div_zero {a : Nat} (ha : a < 2139095040) (h0 : 0 < sv a) : fdiv .f32 a 0 = 2139095040 := by
  obtain ⟨s, m, i, e1, i1, v1⟩ := read_sv (a := a) (by unfold Fi; omega)
  have hm : m ≠ 0 := fun e => by
    rw [e, Nat.zero_mul] at v1
    cases s <;> simp at v1 <;> omega
  have hs : s = false := by
    cases s with
    | false => rfl
    | true => rw [if_pos rfl] at v1; omega
  subst hs
  have e2 : F32.read 0 = .number false 0 (-149) := by decide +kernel
  unfold fdiv Format.div
  rw [e1, e2]
  simp only [Datum.quotient, if_pos, if_neg hm, Option.map_some, Option.getD_some]
  decide +kernel
theorem res_ok {H W T D : Nat} (hf : FlueOk H W T D) (e : Int) : 1031798784 ≤ r160 H W T D e ∧ r160 H W T D e ≤ 2139095040 := by
  have lH := rung_le hf.h (by decide) hf.h2
  have lW := rung_le hf.w (by decide) hf.w2
  have lD := hf.d
  unfold r160
  have u1 : fmul .f32 1048576000 H ≤ 1090519040 := prod_pos (r1 := 1048576000) (r2 := 1106247680) (r := 1090519040) (by decide) lH (by decide) (by decide) (by decide) (by decide +kernel)
  generalize fmul .f32 1048576000 H = u at *
  have n1 : fadd .f32 1065353216 u ≤ 1098907648 := sum_pos (r1 := 1065353216) (r2 := 1090519040) (by decide) u1 (by decide) (by decide) (by decide) (by decide +kernel)
  have n2 : 2 ^ 149 ≤ sv (fadd .f32 1065353216 u) := by
    have f := cFM
    have p : 0 ≤ sv u := by rw [sv_pos (by omega)]; omega
    have q : sv u ≤ 8 * 2 ^ 149 := by
      rw [← c8, sv_pos (by omega), sv_pos (by decide)]
      exact Int.ofNat_le.2 (rv_le u1)
    have s1 := add_fr (a := 1065353216) (b := u) (by unfold Fi; decide) (by unfold Fi; omega) (by rw [c1]; omega) (by rw [c1]; omega)
    rw [c1] at s1
    exact Fr_lb s1 (by decide) c1 (by omega)
  generalize fadd .f32 1065353216 u = num at *
  have v1 : fmul .f32 W D ≤ 1082130432 := prod_pos (r1 := 1082130432) (r2 := 1065353216) (by omega) lD (by decide) (by decide) (by decide) (by decide +kernel)
  generalize fmul .f32 W D = v at *
  have d1 : fmul .f32 v v ≤ 1098907648 := prod_pos (r1 := 1082130432) (r2 := 1082130432) v1 v1 (by decide) (by decide) (by decide) (by decide +kernel)
  generalize fmul .f32 v v = den at *
  by_cases hd : den = 0
  · subst hd
    rw [div_zero (by omega) (by omega)]
    decide
  · have hdp : 0 < sv den := by
      rw [sv_pos (by omega)]
      have := (rval_lt_iff F32 0 den).2 (by omega)
      omega
    have hdl : sv den ≤ 16 * 2 ^ 149 := by
      rw [← c16, sv_pos (by omega), sv_pos (by decide)]
      exact Int.ofNat_le.2 (rv_le d1)
    exact div_ge (by omega) (by unfold Fi; omega) hdp (by decide) (by
      rw [← sv_pos (a := 1031798784) (by decide), c16th]
      refine Int.le_trans (Int.mul_le_mul_of_nonneg_left hdl (by decide)) ?_
      refine Int.le_trans ?_ (Int.mul_le_mul_of_nonneg_right n2 (by decide))
      decide)
/-- what a push may be -/
structure PuOk (p : Nat) : Prop where
  f : Fi p
  l : p < 4294967296
  lo : -(2000 * 2 ^ 149) ≤ sv p
  hi : sv p ≤ 2000 * 2 ^ 149
section
variable {H W T D o p : Nat} (hf : FlueOk H W T D) (h3 : Nn o) (h0 : o < 4294967296) (h1 : sv 3262119936 ≤ sv o) (h2 : sv o ≤ sv 1114636288) (e : Int) (hp : PuOk p)
include hf h3 h0 h1 h2 hp
theorem x_ok : Fi (fdiv .f32 (fadd .f32 (r159 H W T D e o) p) (r160 H W T D e)) ∧ fdiv .f32 (fadd .f32 (r159 H W T D e o) p) (r160 H W T D e) < 4294967296 := by
  have f := cFM
  obtain ⟨d1, d2, d3⟩ := drf_ok hf h3 h0 h1 h2 e
  obtain ⟨q1, q2⟩ := res_ok hf e
  have p1 := hp.lo
  have p2 := hp.hi
  have s1 := add_fr d1 hp.f (by omega) (by omega)
  have s2 := Fr_ub s1 (by decide) c4096 (by omega)
  have s3 := Fr_lbn s1 (by decide) c4096 (by omega)
  refine ⟨?_, fdiv_lt _ _⟩
  generalize fadd .f32 (r159 H W T D e o) p = y at *
  generalize r160 H W T D e = q at *
  by_cases hq : q = 2139095040
  · subst hq
    obtain ⟨s, m, i, e1, i1, v1⟩ := read_sv s1.fi
    have e2 : F32.read 2139095040 = .infinity false := by decide +kernel
    unfold fdiv Format.div
    rw [e1, e2]
    simp only [Datum.quotient, Option.map_some, Option.getD_some]
    cases s <;> (unfold Fi; decide +kernel)
  · have hql : 2 ^ 145 ≤ sv q := by
      rw [← c16th, sv_pos (by decide), sv_pos (by omega)]
      exact Int.ofNat_le.2 (rv_le q1)
    have big := Int.mul_le_mul (a := 2 ^ 200) (b := 2 ^ 145) (c := FM) (d := sv q) f hql (by decide) (by omega)
    have big2 : 4096 * 2 ^ 149 * 2 ^ 149 ≤ FM * sv q := Int.le_trans (by decide) big
    exact (div_fr s1.fi (by unfold Fi; omega) (by omega) (Int.le_trans (Int.mul_le_mul_of_nonneg_right s2 (by decide)) big2) (by omega)).fi
end
/-- a root of what a root can be drawn from -/
theorem root_ok {a : Nat} (h : a < 2139095040 ∨ a = 2147483648) : ∃ q, r161 a = (0, q) ∧ Fi q ∧ q < 4294967296 ∧ (a = 2147483648 → q = 2147483648) ∧ (a < 2139095040 → q < 2139095040) := by
  unfold r161 r165
  rcases h with h | rfl
  · obtain ⟨q, q1, q2, q3, _⟩ := root_fr h
    rw [q2, q3]
    exact ⟨q, rfl, by unfold Fi; omega, by omega, fun e => by omega, fun _ => q1⟩
  · refine ⟨2147483648, by decide +kernel, by unfold Fi; decide, by decide, fun _ => rfl, fun g => by omega⟩
theorem zero_word {x : Nat} (h1 : 2147483648 ≤ x) (h2 : x < 4294967296) (h : ¬ sv x < 0) : x = 2147483648 := by
  rw [sv_neg h1 h2] at h
  have : rval F32 (x - 2147483648) = 0 := by omega
  have := rval_inj F32 (this.trans (rval_zero F32).symm)
  omega
/-- what goes through a flue -/
noncomputable def thr (H W T D : Nat) (e : Int) (o p : Nat) : Nat := (r125 H W T D e o p).2
theorem thr_ok {H W T D o p : Nat} (hf : FlueOk H W T D) (h3 : Nn o) (h0 : o < 4294967296) (h1 : sv 3262119936 ≤ sv o) (h2 : sv o ≤ sv 1114636288) (e : Int) (hp : PuOk p) : r125 H W T D e o p = (0, thr H W T D e o p) ∧ Fi (thr H W T D e o p) ∧ thr H W T D e o p < 4294967296 := by
  obtain ⟨x1, x2⟩ := x_ok hf h3 h0 h1 h2 e hp
  have key : ∃ v, r125 H W T D e o p = (0, v) ∧ Fi v ∧ v < 4294967296 := by
    unfold r125
    generalize fdiv .f32 (fadd .f32 (r159 H W T D e o) p) (r160 H W T D e) = x at *
    cases feq .f32 D 0 with
    | true => exact ⟨0, rfl, by unfold Fi; decide, by decide⟩
    | false =>
      rw [flt_sv x1.nn (by unfold Nn; decide) x2 (by decide), c0]
      by_cases hx : sv x < 0
      · rw [decide_eq_true hx]
        have hx31 : 2147483648 ≤ x := Nat.le_of_not_lt fun g => by rw [sv_pos g] at hx; omega
        obtain ⟨b, rfl⟩ : ∃ b, x = 2147483648 + b := ⟨x - 2147483648, by omega⟩
        unfold Fi at x1
        rw [neg_neg (by omega)]
        obtain ⟨q, e1, e2, e3, _, e5⟩ := root_ok (a := b) (.inl (by omega))
        rw [e1]
        exact ⟨fneg .f32 q, rfl, e2.neg e3, fneg_lt _ e3⟩
      · rw [decide_eq_false hx]
        have hc : x < 2139095040 ∨ x = 2147483648 := by
          unfold Fi at x1
          by_cases g : x < 2147483648
          · exact .inl (by omega)
          · exact .inr (zero_word (by omega) x2 hx)
        obtain ⟨q, e1, e2, e3, _⟩ := root_ok hc
        rw [e1]
        exact ⟨q, rfl, e2, e3⟩
  obtain ⟨v, e1, e2, e3⟩ := key
  unfold thr
  rw [e1]
  exact ⟨rfl, e2, e3⟩
/-- the reference's -/
theorem flowS {t : List (List Int)} {i o p : Nat} (hi : i < t.length) (h : ∃ v, r125 (fc t i 0) (fc t i 1) (fc t i 2) (fc t i 3) (ic t i 4) o p = (0, v)) : r129 i o p t = r125 (fc t i 0) (fc t i 1) (fc t i 2) (fc t i 3) (ic t i 4) o p := by
  obtain ⟨v, h⟩ := h
  unfold r129 r163 r164
  rw [blt_t hi]
  unfold r125 r161 r159 r160 at h ⊢
  have e120 : ∀ a, r173 a = r170 a := fun a => rfl
  simp only [e120, cond_true, Nat.beq] at h ⊢
  cases feq .f32 (fc t i 3) 0 with
  | true => rfl
  | false =>
    simp only [cond_false]
    cases flt .f32 (fdiv .f32 (fadd .f32 (fmul .f32 (fmul .f32 1092354048 (fc t i 0)) (fsub .f32 (r170 o) (r170 (fc t i 2)))) p) (fdiv .f32 (fadd .f32 1065353216 (fmul .f32 1048576000 (fc t i 0))) (fmul .f32 (fmul .f32 (fc t i 1) (fc t i 3)) (fmul .f32 (fc t i 1) (fc t i 3))))) 0 with
    | true =>
      simp only [cond_true]
      cases narrowOk (r165 (widen (fneg .f32 (fdiv .f32 (fadd .f32 (fmul .f32 (fmul .f32 1092354048 (fc t i 0)) (fsub .f32 (r170 o) (r170 (fc t i 2)))) p) (fdiv .f32 (fadd .f32 1065353216 (fmul .f32 1048576000 (fc t i 0))) (fmul .f32 (fmul .f32 (fc t i 1) (fc t i 3)) (fmul .f32 (fc t i 1) (fc t i 3)))))))) <;> rfl
    | false =>
      simp only [cond_false]
      cases narrowOk (r165 (widen (fdiv .f32 (fadd .f32 (fmul .f32 (fmul .f32 1092354048 (fc t i 0)) (fsub .f32 (r170 o) (r170 (fc t i 2)))) p) (fdiv .f32 (fadd .f32 1065353216 (fmul .f32 1048576000 (fc t i 0))) (fmul .f32 (fmul .f32 (fc t i 1) (fc t i 3)) (fmul .f32 (fc t i 1) (fc t i 3))))))) <;> rfl
end Go.Proofs.Ytmknfenjnladeaa

namespace Go.Proofs.Ytmknfenjnladeaa
open Go.Ab Ieee

/-! ### branches -/
noncomputable def brF (t : List (List Int)) (k : Int) (i : Nat) : Option (List Int) := if ic t i 4 = k then some [(i : Int)] else none
noncomputable def brs (t : List (List Int)) (k : Int) : List (List Int) := (List.range t.length).filterMap (brF t k)
theorem brs_len (t : List (List Int)) (k : Int) : (brs t k).length ≤ t.length := by
  unfold brs
  have := List.length_filterMap_le (brF t k) (List.range t.length)
  rwa [List.length_range] at this
theorem brs_get {t : List (List Int)} {k : Int} {j : Nat} (hj : j < (brs t k).length) : ∃ i : Nat, i < t.length ∧ ic (brs t k) j 0 = (i : Int) ∧ ic t i 4 = k := by
  have h : (brs t k).getD j [] ∈ brs t k := by
    rw [List.getD_eq_getElem?_getD, List.getElem?_eq_getElem hj]
    exact List.getElem_mem hj
  unfold brs at h
  obtain ⟨i, hi, e⟩ := List.mem_filterMap.1 h
  refine ⟨i, List.mem_range.1 hi, ?_⟩
  unfold brF at e
  by_cases g : ic t i 4 = k
  · rw [if_pos g] at e
    have e2 : (brs t k).getD j [] = [(i : Int)] := (Option.some.inj e).symm
    refine ⟨?_, g⟩
    show ((brs t k).getD j []).getD 0 0 = _
    rw [e2]; rfl
  · rw [if_neg g] at e; cases e
theorem brS {t : List (List Int)} (hl : t.length ≤ 6) (k : Int) : r133 k t = (0, brs t k) := by
  have lp := app_loop (n := t.length) (f := brF t k) (G := fun m s i => r133l0 m k i t s) (fuel := 1000 + 0 + t.length) ?_ ?_ (by omega)
  · unfold r133
    rcases lp with e | ⟨e, e'⟩
    · have e2 : r133l0 (1000 + 0 + t.length) k 0 t [] = _ := e
      rw [e2]; rfl
    · have e2 : r133l0 (1000 + 0 + t.length) k 0 t [] = _ := e
      rw [e2]; unfold brs; rw [e']; rfl
  · intro m s
    show b133l0 (r133l0 m) _ _ _ _ = _
    unfold b133l0
    rw [dlt_f (Nat.lt_irrefl _)]; rfl
  · intro m i s hi hs
    show b133l0 (r133l0 m) _ _ _ _ = _
    unfold b133l0 brF
    simp only [take_all, Int.toNat_natCast]
    rw [dlt_t hi, dle0, blt_t hi, wrap_succ (by omega), show Nat.ble ((s.length + 1) * 9) 140737488355328 = true from Nat.ble_eq_true_of_le (by omega)]
    show cond (ic t i 4 == k) _ _ = _
    by_cases g : ic t i 4 = k
    · rw [if_pos g, g, beq_self_eq_true]; rfl
    · rw [if_neg g, show (ic t i 4 == k) = false from beq_eq_false_iff_ne.2 g]; rfl
theorem brI {t : List (List Int)} (hl : t.length ≤ 6) (k : Int) : r131 k t = (0, brs t k) := by
  have lp := app_loop (n := t.length) (f := brF t k) (G := fun m s i => r131l0 m k ((t.length : Nat) : Int) i s t) (fuel := 1000 + t.length + 0) ?_ ?_ (by omega)
  · unfold r131
    rcases lp with e | ⟨e, e'⟩
    · have e2 : r131l0 (1000 + t.length + 0) k ((t.length : Nat) : Int) 0 [] t = _ := e
      rw [e2]; rfl
    · have e2 : r131l0 (1000 + t.length + 0) k ((t.length : Nat) : Int) 0 [] t = _ := e
      rw [e2]; unfold brs; rw [e']; rfl
  · intro m s
    show b131l0 (r131l0 m) _ _ _ _ _ = _
    unfold b131l0
    rw [dlt_f (Nat.lt_irrefl _)]; rfl
  · intro m i s hi hs
    show b131l0 (r131l0 m) _ _ _ _ _ = _
    unfold b131l0 brF
    simp only [take_all, Int.toNat_natCast]
    rw [dlt_t hi, dle0, blt_t hi, wrap_succ (by omega), show Nat.ble ((s.length + 1) * 9) 140737488355328 = true from Nat.ble_eq_true_of_le (by omega)]
    show cond (ic t i 4 == k) _ _ = _
    by_cases g : ic t i 4 = k
    · rw [if_pos g, g, beq_self_eq_true]; rfl
    · rw [if_neg g, show (ic t i 4 == k) = false from beq_eq_false_iff_ne.2 g]; rfl

/-! ### pushes -/
theorem pu_neg {m : Nat} (f : Fi m) (lo : -(1000 * 2 ^ 149) ≤ sv m) (hi : sv m ≤ 1000 * 2 ^ 149) : PuOk (fsub .f32 0 m) := by
  have g := cFM
  have s := sub_fr (a := 0) (by unfold Fi; decide) f (by rw [c0]; omega) (by rw [c0]; omega)
  rw [c0] at s
  exact ⟨s.fi, s.lt, Fr_lbn s (by decide) c2000 (by omega), Fr_ub s (by decide) c2000 (by omega)⟩
theorem pu_wind {m w : Nat} (f : Fi m) (lo : -(1000 * 2 ^ 149) ≤ sv m) (hi : sv m ≤ 1000 * 2 ^ 149) (fw : Fi w) (wlo : -(1000 * 2 ^ 149) ≤ sv w) (whi : sv w ≤ 1000 * 2 ^ 149) : PuOk (fsub .f32 m w) := by
  have g := cFM
  have s := sub_fr f fw (by omega) (by omega)
  exact ⟨s.fi, s.lt, Fr_lbn s (by decide) c2000 (by omega), Fr_ub s (by decide) c2000 (by omega)⟩
/-- a push that is tried -/
structure BiOk (m : Nat) : Prop where
  f : Fi m
  l : m < 4294967296
  lo : -(1000 * 2 ^ 149) ≤ sv m
  hi : sv m ≤ 1000 * 2 ^ 149
theorem bi_mid {a b : Nat} (ha : BiOk a) (hb : BiOk b) : BiOk (fmul .f32 1056964608 (fadd .f32 a b)) := by
  have g := cFM
  have a1 := ha.lo
  have a2 := ha.hi
  have b1 := hb.lo
  have b2 := hb.hi
  have cc : ((2 ^ 149 : Nat) : Int) = 2 ^ 149 := by rw [Int.natCast_pow]; rfl
  have s := add_fr ha.f hb.f (by omega) (by omega)
  have s1 := Fr_ub s (by decide) c2000 (by omega)
  have s2 := Fr_lbn s (by decide) c2000 (by omega)
  have m := mul_fr (a := 1056964608) (by unfold Fi; decide) s.fi (by rw [c05]; omega) (by rw [c05]; omega)
  rw [c05] at m
  exact ⟨m.fi, m.lt, Fr_lbn m (by decide) c1000 (by rw [cc]; omega), Fr_ub m (by decide) c1000 (by rw [cc]; omega)⟩

/-! ### a chimney in a weather -/
section
variable {t : List (List Int)} {o w : Nat} (hc : ChOk t) (hw : WOk o w)
/-- what goes through a flue of a chimney -/
noncomputable def flo (t : List (List Int)) (o : Nat) (i p : Nat) : Nat := thr (fc t i 0) (fc t i 1) (fc t i 2) (fc t i 3) (ic t i 4) o p
include hc hw in
theorem floI {i p : Nat} (hi : i < t.length) (hp : PuOk p) : r125 (fc t i 0) (fc t i 1) (fc t i 2) (fc t i 3) (ic t i 4) o p = (0, flo t o i p) ∧ Fi (flo t o i p) ∧ flo t o i p < 4294967296 :=
  thr_ok (hc.flue i hi) hw.on hw.o0 hw.o1 hw.o2 _ hp
include hc hw in
theorem floS {i p : Nat} (hi : i < t.length) (hp : PuOk p) : r129 i o p t = (0, flo t o i p) := by
  have h := (floI hc hw hi hp).1
  rw [flowS hi ⟨_, h⟩, h]
/-- the sum of flows, from the first one on -/
noncomputable def sumB (t : List (List Int)) (o : Nat) (k : Int) (p : Nat) : Nat := foldN (fun j s => fadd .f32 s (flo t o (fc (brs t k) j 0) p)) ((brs t k).length - 1) 1 (flo t o (fc (brs t k) 0 0) p)
theorem fc_of {b : List (List Int)} {j i : Nat} (h : ic b j 0 = (i : Int)) : fc b j 0 = i := by
  show (ic b j 0).toNat = i
  rw [h]; rfl
include hc hw in
theorem sumS {k : Int} {m : Nat} (hm : BiOk m) (h0 : 0 < (brs t k).length) (x0 : Int) (x2 x3 x4 : Nat) (x5 : Int) {fuel : Nat} (hf : (brs t k).length < fuel) : r67l1 fuel x0 o x2 x3 x4 x5 m (flo t o (fc (brs t k) 0 0) (fsub .f32 0 m)) 1 t (brs t k) = (0, sumB t o k (fsub .f32 0 m)) := by
  have hp := pu_neg hm.f hm.lo hm.hi
  have hn := brs_len t k
  have h6 := hc.n2
  refine fold_at (n := (brs t k).length) (step := fun j s => fadd .f32 s (flo t o (fc (brs t k) j 0) (fsub .f32 0 m))) (mk := fun s => (0, s)) (G := fun f s i => r67l1 f x0 o x2 x3 x4 x5 m s i t (brs t k)) ?_ ?_ ((brs t k).length - 1) 1 fuel _ (by omega) (by omega)
  · intro f s
    show b67l1 (r67l1 f) _ _ _ _ _ _ _ _ _ _ _ = _
    unfold b67l1
    rw [dlt_f (Nat.lt_irrefl _)]; rfl
  · intro f j s hj
    show b67l1 (r67l1 f) _ _ _ _ _ _ _ _ _ _ _ = _
    unfold b67l1
    obtain ⟨i, hi, e, _⟩ := brs_get hj
    rw [dlt_t hj, dle0, Int.toNat_natCast, blt_t hj, wrap_succ (by omega)]
    have e' : ((brs t k).getD j []).getD 0 0 = (i : Int) := e
    rw [fc_of e]
    simp only [e', Int.toNat_natCast]
    rw [dle0, blt_t hi, floS hc hw hi hp]
    rfl
include hc hw in
theorem listI {k : Int} {m : Nat} (hm : BiOk m) (x0 : Int) (x2 x3 x4 : Nat) (x6 : Int) {fuel : Nat} (hf : (brs t k).length < fuel) (h0 : 0 < (brs t k).length) : r65l1 fuel x0 o x2 x3 x4 m x6 (((brs t k).length : Nat) : Int) 0 t (brs t k) [] = (0, (List.range (brs t k).length).map fun j => [((flo t o (fc (brs t k) j 0) (fsub .f32 0 m) : Nat) : Int)]) := by
  have hp := pu_neg hm.f hm.lo hm.hi
  have hn := brs_len t k
  have h6 := hc.n2
  have lp := app_loop (n := (brs t k).length) (f := fun j => some [((flo t o (fc (brs t k) j 0) (fsub .f32 0 m) : Nat) : Int)]) (G := fun f s i => r65l1 f x0 o x2 x3 x4 m x6 (((brs t k).length : Nat) : Int) i t (brs t k) s) (fuel := fuel) ?_ ?_ hf
  · have em : (List.range (brs t k).length).filterMap (fun j => some [((flo t o (fc (brs t k) j 0) (fsub .f32 0 m) : Nat) : Int)]) = (List.range (brs t k).length).map fun j => [((flo t o (fc (brs t k) j 0) (fsub .f32 0 m) : Nat) : Int)] := congrFun List.filterMap_eq_map' _
    rw [em] at lp
    rcases lp with e | ⟨_, e'⟩
    · exact e
    · have := congrArg List.length e'
      rw [List.length_map, List.length_range] at this
      exact absurd this (by show ¬ (brs t k).length = 0; omega)
  · intro f s
    show b65l1 (r65l1 f) _ _ _ _ _ _ _ _ _ _ _ _ = _
    unfold b65l1
    rw [dlt_f (Nat.lt_irrefl _)]; rfl
  · intro f j s hj hs
    show b65l1 (r65l1 f) _ _ _ _ _ _ _ _ _ _ _ _ = _
    unfold b65l1
    obtain ⟨i, hi, e, _⟩ := brs_get hj
    simp only [take_all, Int.toNat_natCast]
    rw [dlt_t hj, dle0, blt_t hj, wrap_succ (by omega), show Nat.ble ((s.length + 1) * 5) 140737488355328 = true from Nat.ble_eq_true_of_le (by omega)]
    have e' : ((brs t k).getD j []).getD 0 0 = (i : Int) := e
    rw [fc_of e]
    simp only [e', Int.toNat_natCast]
    have h := (floI hc hw hi hp).1
    rw [dle0, blt_t hi, h]
    rfl
end
theorem map_getD {α : Type} {f : Nat → α} {n j : Nat} (hj : j < n) {d : α} : ((List.range n).map f).getD j d = f j := by
  simp [List.getD, hj]
/-- the sum of a list -/
theorem sumI {n : Nat} (hn : 0 < n) (hs : n ≤ 6) (g : Nat → Nat) : r132 ((List.range n).map fun j => [((g j : Nat) : Int)]) = (0, foldN (fun j s => fadd .f32 s (g j)) (n - 1) 1 (g 0)) := by
  have hl : ((List.range n).map fun j => [((g j : Nat) : Int)]).length = n := by simp
  have hg : ∀ j, j < n → Int.toNat ((((List.range n).map fun j => [((g j : Nat) : Int)]).getD j []).getD 0 0) = g j := fun j hj => by
    rw [map_getD hj]; rfl
  generalize ((List.range n).map fun j => [((g j : Nat) : Int)]) = L at *
  have lp : r132l0 (1000 + L.length) (g 0) (n - 1) (n - 1) (((n - 1 : Nat)) : Int) 0 L = (0, foldN (fun j s => fadd .f32 s (g (1 + j))) (n - 1) 0 (g 0)) := by
    refine fold_at (n := n - 1) (step := fun j s => fadd .f32 s (g (1 + j))) (mk := fun s => (0, s)) (G := fun f s i => r132l0 f s (n - 1) (n - 1) (((n - 1 : Nat)) : Int) i L) ?_ ?_ (n - 1) 0 _ _ (by omega) (by omega)
    · intro f s
      show b132l0 (r132l0 f) _ _ _ _ _ _ = _
      unfold b132l0
      rw [dlt_f (Nat.lt_irrefl _)]; rfl
    · intro f j s hj
      show b132l0 (r132l0 f) _ _ _ _ _ _ = _
      unfold b132l0
      rw [dlt_t hj, dle0, Int.toNat_natCast, blt_t hj, wrap_succ (by omega), hg (1 + j) (by omega), blt_t (show 1 + j < L.length by omega)]
      rfl
  rw [foldN_shift (fun j s => fadd .f32 s (g j))] at lp
  unfold r132
  rw [hg 0 hn, hl] at *
  rw [blt_t hn]
  by_cases h1 : 1 < n
  · rw [blt_t h1, show Nat.ble 1 n = true from Nat.ble_eq_true_of_le (by omega), show Nat.ble n n = true from Nat.ble_eq_true_of_le (Nat.le_refl _)]
    rw [lp]; rfl
  · have : n = 1 := by omega
    subst this
    rfl
/-! ### the search for a push -/
/-- one round -/
noncomputable def atStep (t : List (List Int)) (o w k : Nat) (_ : Nat) (b : Nat × Nat) : Nat × Nat :=
  cond (fgt .f32 (sumB t o (k : Int) (fsub .f32 0 (fmul .f32 1056964608 (fadd .f32 b.1 b.2)))) (flo t o k (fsub .f32 (fmul .f32 1056964608 (fadd .f32 b.1 b.2)) w))) (fmul .f32 1056964608 (fadd .f32 b.1 b.2), b.2) (b.1, fmul .f32 1056964608 (fadd .f32 b.1 b.2))
/-- the push at the foot of a trunk -/
noncomputable def atP (t : List (List Int)) (o w k : Nat) : Nat := if (brs t (k : Int)).length = 0 then 0 else (foldN (atStep t o w k) 40 0 (3296329728, 1148846080)).2
def BiOk2 (b : Nat × Nat) : Prop := BiOk b.1 ∧ BiOk b.2
theorem atStep_ok {t : List (List Int)} {o w k i : Nat} {b : Nat × Nat} (h : BiOk2 b) : BiOk2 (atStep t o w k i b) := by
  have m := bi_mid h.1 h.2
  unfold atStep
  cases fgt .f32 (sumB t o (k : Int) (fsub .f32 0 (fmul .f32 1056964608 (fadd .f32 b.1 b.2)))) (flo t o k (fsub .f32 (fmul .f32 1056964608 (fadd .f32 b.1 b.2)) w)) with
  | true => exact ⟨m, h.2⟩
  | false => exact ⟨h.1, m⟩
theorem bi_start : BiOk2 (3296329728, 1148846080) := ⟨⟨by unfold Fi; decide, by decide, by rw [cm1000]; omega, by rw [cm1000]; omega⟩, ⟨by unfold Fi; decide, by decide, by rw [c1000]; omega, by rw [c1000]; omega⟩⟩
theorem fold_ok {t : List (List Int)} {o w k : Nat} : ∀ (n i : Nat) {b : Nat × Nat}, BiOk2 b → BiOk2 (foldN (atStep t o w k) n i b)
  | 0, _, _, h => h
  | n + 1, i, _, h => fold_ok n (i + 1) (atStep_ok h)
theorem at_ok (t : List (List Int)) (o w k : Nat) : BiOk (atP t o w k) := by
  unfold atP
  split
  · exact ⟨by unfold Fi; decide, by decide, by rw [c0]; omega, by rw [c0]; omega⟩
  · exact (fold_ok 40 0 bi_start).2
section
variable {t : List (List Int)} {o w : Nat} (hc : ChOk t) (hw : WOk o w)
include hw in
theorem w_fi : Fi w ∧ -(1000 * 2 ^ 149) ≤ sv w ∧ sv w ≤ 1000 * 2 ^ 149 := by
  have g := cFM
  have h1 := hw.w1
  have h2 := hw.w2
  rw [cm1000] at h1
  rw [c1000] at h2
  exact ⟨nn_fi hw.wn hw.w0 (v := 1000 * 2 ^ 149) (by omega) (by omega) (by omega), by omega, by omega⟩
include hc hw
theorem atS {k : Nat} (hk : k < t.length) : r67 (k : Int) o w t = (0, atP t o w k) := by
  have h6 := hc.n2
  have hn := brs_len t (k : Int)
  obtain ⟨f1, f2, f3⟩ := w_fi hw
  unfold r67 atP
  rw [brS h6]
  by_cases h0 : (brs t (k : Int)).length = 0
  · rw [if_pos h0]
    show cond true (cond ((((brs t (k : Int)).length : Nat) : Int) == 0) _ _) _ = _
    rw [h0]; rfl
  · rw [if_neg h0]
    have lp : r67l0 (1000 + (brs t (k : Int)).length + t.length) (k : Int) o w 3296329728 1148846080 0 t (brs t (k : Int)) = (0, (foldN (atStep t o w k) 40 0 (3296329728, 1148846080)).2) := by
      refine fold_loop (n := 40) (step := atStep t o w k) (mk := fun b => (0, b.2)) (G := fun f b i => r67l0 f (k : Int) o w b.1 b.2 i t (brs t (k : Int))) (s := (3296329728, 1148846080)) (fun _ b => BiOk2 b) ?_ ?_ (fun i b _ h => atStep_ok h) (by omega) bi_start
      · intro f b _
        show b67l0 (r67l0 f) _ _ _ _ _ _ _ _ = _
        unfold b67l0
        rw [show decide (((40 : Nat) : Int) < 40) = false from rfl]; rfl
      · intro f i b hi hb
        show b67l0 (r67l0 f) _ _ _ _ _ _ _ _ = _
        have hm := bi_mid hb.1 hb.2
        have hp := pu_neg hm.f hm.lo hm.hi
        have hpw := pu_wind hm.f hm.lo hm.hi f1 f2 f3
        unfold b67l0 atStep
        generalize fmul .f32 1056964608 (fadd .f32 b.1 b.2) = m at *
        obtain ⟨i0, hi0, e0, _⟩ := brs_get (show 0 < (brs t (k : Int)).length by omega)
        have e0' : ((brs t (k : Int)).getD 0 []).getD 0 0 = (i0 : Int) := e0
        have q1 := floS hc hw hi0 hp
        have q2 := sumS hc hw (k := (k : Int)) hm (by omega) (k : Int) w b.1 b.2 (i : Int) (fuel := 1000 + (brs t (k : Int)).length + t.length) (by omega)
        have q3 := floS hc hw hk hpw
        rw [fc_of e0] at q2
        simp only [e0', Int.toNat_natCast, q1, q2, q3]
        rw [show decide (((i : Nat) : Int) < 40) = true from decide_eq_true (by omega), blt_t (show 0 < (brs t (k : Int)).length by omega), dle0, dle0, blt_t hi0, blt_t hk, wrap_succ (by omega)]
        simp only [cond_true, Bool.and_self, Nat.beq]
        cases fgt .f32 (sumB t o (k : Int) (fsub .f32 0 m)) (flo t o k (fsub .f32 m w)) <;> rfl
    rw [lp]
    show cond true (cond ((((brs t (k : Int)).length : Nat) : Int) == 0) _ _) _ = _
    rw [show ((((brs t (k : Int)).length : Nat) : Int) == 0) = false from beq_eq_false_iff_ne.2 (by omega)]
    rfl
theorem atI {k : Nat} (hk : k < t.length) : r65 (k : Int) o w t = (0, atP t o w k) := by
  have h6 := hc.n2
  have hn := brs_len t (k : Int)
  obtain ⟨f1, f2, f3⟩ := w_fi hw
  unfold r65 atP
  rw [brI h6]
  by_cases h0 : (brs t (k : Int)).length = 0
  · rw [if_pos h0]
    show cond true (cond ((((brs t (k : Int)).length : Nat) : Int) == 0) _ _) _ = _
    rw [h0]; rfl
  · rw [if_neg h0]
    have lp : r65l0 (1000 + (brs t (k : Int)).length + t.length) (k : Int) o w 3296329728 1148846080 0 t (brs t (k : Int)) = (0, (foldN (atStep t o w k) 40 0 (3296329728, 1148846080)).2) := by
      refine fold_loop (n := 40) (step := atStep t o w k) (mk := fun b => (0, b.2)) (G := fun f b i => r65l0 f (k : Int) o w b.1 b.2 i t (brs t (k : Int))) (s := (3296329728, 1148846080)) (fun _ b => BiOk2 b) ?_ ?_ (fun i b _ h => atStep_ok h) (by omega) bi_start
      · intro f b _
        show b65l0 (r65l0 f) _ _ _ _ _ _ _ _ = _
        unfold b65l0
        rw [show decide (((40 : Nat) : Int) < 40) = false from rfl]; rfl
      · intro f i b hi hb
        show b65l0 (r65l0 f) _ _ _ _ _ _ _ _ = _
        have hm := bi_mid hb.1 hb.2
        have hp := pu_neg hm.f hm.lo hm.hi
        have hpw := pu_wind hm.f hm.lo hm.hi f1 f2 f3
        unfold b65l0 atStep
        generalize fmul .f32 1056964608 (fadd .f32 b.1 b.2) = m at *
        have q1 := listI hc hw (k := (k : Int)) hm (k : Int) w b.1 b.2 (i : Int) (fuel := 1000 + 0 + (brs t (k : Int)).length + t.length) (by omega) (by omega)
        have q2 := sumI (n := (brs t (k : Int)).length) (by omega) (by omega) (fun j => flo t o (fc (brs t (k : Int)) j 0) (fsub .f32 0 m))
        have q3 := (floI hc hw hk hpw).1
        simp only [q1, q2, q3, Int.toNat_natCast]
        rw [show decide (((i : Nat) : Int) < 40) = true from decide_eq_true (by omega), dle0, blt_t hk, wrap_succ (by omega)]
        simp only [cond_true, Bool.and_self, Nat.beq]
        show cond (fgt .f32 (sumB t o (k : Int) (fsub .f32 0 m)) _) _ _ = _
        cases fgt .f32 (sumB t o (k : Int) (fsub .f32 0 m)) (flo t o k (fsub .f32 m w)) <;> rfl
    rw [lp]
    show cond true (cond ((((brs t (k : Int)).length : Nat) : Int) == 0) _ _) _ = _
    rw [show ((((brs t (k : Int)).length : Nat) : Int) == 0) = false from beq_eq_false_iff_ne.2 (by omega)]
    rfl
end
end Go.Proofs.Ytmknfenjnladeaa

namespace Go.Proofs.Ytmknfenjnladeaa
open Go.Ab Ieee

theorem num_fi {v : Nat} (h : Fi v) : r94 v = (v, 0) := by
  unfold r94
  rw [fin_spec, decide_eq_true (show v % 2147483648 < 2139095040 from h)]; rfl
/-! ### flows -/
/-- the flow of a flue -/
noncomputable def fl (t : List (List Int)) (o w i : Nat) : Nat := if ic t i 4 = -1 then flo t o i (fsub .f32 (atP t o w i) w) else flo t o i (fsub .f32 0 (atP t o w (ic t i 4).toNat))
noncomputable def flows (t : List (List Int)) (o w : Nat) : List (List Int) := (List.range t.length).map fun i => [((fl t o w i : Nat) : Int)]
theorem flows_len (t : List (List Int)) (o w : Nat) : (flows t o w).length = t.length := by unfold flows; simp
theorem flows_get {t : List (List Int)} {o w i : Nat} (hi : i < t.length) : fc (flows t o w) i 0 = fl t o w i := by
  show Int.toNat (((flows t o w).getD i []).getD 0 0) = _
  unfold flows
  rw [map_getD hi]; rfl
section
variable {t : List (List Int)} {o w : Nat} (hc : ChOk t) (hw : WOk o w)
include hc hw
theorem fl_ok {i : Nat} (hi : i < t.length) : Fi (fl t o w i) ∧ fl t o w i < 4294967296 := by
  obtain ⟨f1, f2, f3⟩ := w_fi hw
  unfold fl
  split
  · have a := at_ok t o w i
    exact (floI hc hw hi (pu_wind a.f a.lo a.hi f1 f2 f3)).2
  · have a := at_ok t o w (ic t i 4).toNat
    exact (floI hc hw hi (pu_neg a.f a.lo a.hi)).2
theorem flowsI : r58 o w t = (0, flows t o w) := by
  obtain ⟨f1, f2, f3⟩ := w_fi hw
  have n1 := hc.n1
  have n2 := hc.n2
  have lp := app_loop (n := t.length) (f := fun i => some [((fl t o w i : Nat) : Int)]) (G := fun m s i => r58l0 m o w ((t.length : Nat) : Int) i t s) (fuel := 1000 + 0 + t.length) ?_ ?_ (by omega)
  · have em : (List.range t.length).filterMap (fun i => some [((fl t o w i : Nat) : Int)]) = flows t o w := congrFun List.filterMap_eq_map' _
    rw [em] at lp
    unfold r58
    rcases lp with e | ⟨_, e'⟩
    · have e2 : r58l0 (1000 + 0 + t.length) o w ((t.length : Nat) : Int) 0 t [] = _ := e
      rw [e2]; rfl
    · have := congrArg List.length e'
      rw [flows_len] at this
      exact absurd this (by show ¬ t.length = 0; omega)
  · intro m s
    show b58l0 (r58l0 m) _ _ _ _ _ _ = _
    unfold b58l0
    rw [dlt_f (Nat.lt_irrefl _)]; rfl
  · intro m i s hi hs
    show b58l0 (r58l0 m) _ _ _ _ _ _ = _
    unfold b58l0
    simp only [take_all, Int.toNat_natCast]
    rw [dlt_t hi, dle0, blt_t hi, wrap_succ (by omega), show Nat.ble ((s.length + 1) * 5) 140737488355328 = true from Nat.ble_eq_true_of_le (by omega)]
    show cond (ic t i 4 == -1) _ _ = _
    have hin := hc.into i hi
    by_cases h1 : ic t i 4 = -1
    · have a := at_ok t o w i
      have q := (floI hc hw hi (pu_wind a.f a.lo a.hi f1 f2 f3)).1
      have e : fl t o w i = flo t o i (fsub .f32 (atP t o w i) w) := by unfold fl; rw [if_pos h1]
      rw [atI hc hw hi, e]
      simp only [q]
      rw [show (ic t i 4 == -1) = true from by rw [h1]; rfl]
      rfl
    · obtain ⟨i0, i1, _, _⟩ := hin.resolve_left h1
      obtain ⟨k, hk⟩ : ∃ k : Nat, ic t i 4 = (k : Int) := ⟨(ic t i 4).toNat, by omega⟩
      have a := at_ok t o w k
      have q := (floI hc hw hi (pu_neg a.f a.lo a.hi)).1
      have e : fl t o w i = flo t o i (fsub .f32 0 (atP t o w k)) := by unfold fl; rw [if_neg h1, hk]; rfl
      have q2 : r65 (ic t i 4) o w t = (0, atP t o w k) := by rw [hk]; exact atI hc hw (by omega)
      rw [show (ic t i 4 == -1) = false from beq_eq_false_iff_ne.2 h1]
      show cond (Nat.beq (r65 (ic t i 4) o w t).1 0) (cond (Nat.beq (r125 (fc t i 0) (fc t i 1) (fc t i 2) (fc t i 3) (ic t i 4) o (fsub .f32 0 (r65 (ic t i 4) o w t).2)).1 0) _ _) _ = _
      simp only [q2, q]
      rw [e]
      rfl
theorem flowsS : r61 o w t = (0, 0, flows t o w) := by
  obtain ⟨f1, f2, f3⟩ := w_fi hw
  have n1 := hc.n1
  have n2 := hc.n2
  have key : ∀ k i fuel s, i + k = t.length → k < fuel → s.length ≤ i → r61l0 fuel o w (i : Int) t s = (2, 0, 0, [], s ++ (List.range' i k).map fun i => [((fl t o w i : Nat) : Int)]) ∨ (k = 0 ∧ r61l0 fuel o w (i : Int) t s = (3, 0, 0, [], [])) := by
    intro k
    induction k with
    | zero =>
      intro i fuel s h hf hs
      obtain ⟨m, rfl⟩ : ∃ m, fuel = m + 1 := ⟨fuel - 1, by omega⟩
      refine .inr ⟨rfl, ?_⟩
      show b61l0 (r61l0 m) _ _ _ _ _ = _
      unfold b61l0
      rw [dlt_f (by omega)]; rfl
    | succ k ih =>
      intro i fuel s h hf hs
      obtain ⟨m, rfl⟩ : ∃ m, fuel = m + 1 := ⟨fuel - 1, by omega⟩
      have hi : i < t.length := by omega
      refine .inl ?_
      have hih := ih (i + 1) m (s ++ [[((fl t o w i : Nat) : Int)]]) (by omega) (by omega) (by simp; omega)
      rw [List.range'_succ, List.map_cons]
      show b61l0 (r61l0 m) _ _ _ _ _ = _
      unfold b61l0
      simp only [take_all, Int.toNat_natCast]
      rw [dlt_t hi, dle0, blt_t hi, wrap_succ (by omega), show Nat.ble ((s.length + 1) * 5) 140737488355328 = true from Nat.ble_eq_true_of_le (by omega)]
      show cond (ic t i 4 == -1) _ (cond (Nat.beq (r67 (ic t i 4) o w t).1 0) (cond (Nat.beq (r129 i o (fsub .f32 0 (r67 (ic t i 4) o w t).2) t).1 0) _ _) _) = _
      have hin := hc.into i hi
      by_cases h1 : ic t i 4 = -1
      · have a := at_ok t o w i
        have hp := pu_wind a.f a.lo a.hi f1 f2 f3
        have q := floS hc hw hi hp
        have qf := (floI hc hw hi hp).2.1
        have e : fl t o w i = flo t o i (fsub .f32 (atP t o w i) w) := by unfold fl; rw [if_pos h1]
        rw [e] at hih ⊢
        rw [atS hc hw hi, show (ic t i 4 == -1) = true from by rw [h1]; rfl]
        simp only [q, num_fi qf]
        rcases hih with hih | ⟨h0, hih⟩
        · rw [hih]; simp [Nat.beq]
        · subst h0; rw [hih]; simp [Nat.beq]
      · obtain ⟨i0, i1, _, _⟩ := hin.resolve_left h1
        obtain ⟨j, hj⟩ : ∃ j : Nat, ic t i 4 = (j : Int) := ⟨(ic t i 4).toNat, by omega⟩
        have a := at_ok t o w j
        have hp := pu_neg a.f a.lo a.hi
        have q := floS hc hw hi hp
        have qf := (floI hc hw hi hp).2.1
        have e : fl t o w i = flo t o i (fsub .f32 0 (atP t o w j)) := by unfold fl; rw [if_neg h1, hj]; rfl
        have q2 : r67 (ic t i 4) o w t = (0, atP t o w j) := by rw [hj]; exact atS hc hw (by omega)
        rw [e] at hih ⊢
        rw [show (ic t i 4 == -1) = false from beq_eq_false_iff_ne.2 h1, q2]
        have q3 : r67 ((t.getD i []).getD 4 0) o w t = (0, atP t o w j) := q2
        simp only [q3, q, num_fi qf]
        rcases hih with hih | ⟨h0, hih⟩
        · rw [hih]; simp [Nat.beq]
        · subst h0; rw [hih]; simp [Nat.beq]
  have k0 := key t.length 0 (1000 + 0 + t.length) [] (by omega) (by omega) (Nat.le_refl _)
  unfold r61
  rcases k0 with k0 | ⟨h0, _⟩
  · have e2 : r61l0 (1000 + 0 + t.length) o w 0 t [] = _ := k0
    rw [e2]
    unfold flows
    rw [List.range_eq_range']
    rfl
  · omega
end
/-! ### lists of numbers -/
theorem fin_all {l : List (List Int)} (hl : l.length ≤ 1048576) (hf : ∀ i, i < l.length → Fi (fc l i 0)) : r59b l = (0, true) := by
  have key : r59l0c (1000 + l.length) ((l.length : Nat) : Int) 0 l = 1 := by
    have := all_loop (n := l.length) (p := fun _ => true) (yes := 1) (no := 0) (G := fun m i => r59l0c m ((l.length : Nat) : Int) i l) (fuel := 1000 + l.length) ?_ ?_ (by omega)
    · rw [this, show allN l.length (fun _ => true) = true from allN_true.2 (fun _ _ => rfl)]; rfl
    · intro m
      show b59l0c (r59l0c m) _ _ _ = _
      unfold b59l0c
      rw [dlt_f (Nat.lt_irrefl _)]; rfl
    · intro m i hi
      show b59l0c (r59l0c m) _ _ _ = _
      unfold b59l0c
      have e : cond (r126 (widen (fc l i 0))) false (cond (r127 (widen (fc l i 0)) 0) false true) = true := by
        have e56 : r59 (fc l i 0) = cond (r126 (widen (fc l i 0))) false (cond (r127 (widen (fc l i 0)) 0) false true) := by unfold r59 r59l0b; cases r126 (widen (fc l i 0)) <;> cases r127 (widen (fc l i 0)) 0 <;> rfl
        rw [← e56, fin_impl]; exact decide_eq_true (hf i hi)
      rw [dlt_t hi, dle0, Int.toNat_natCast, blt_t hi, wrap_succ (by omega)]
      cases e1 : r126 (widen (fc l i 0)) with
      | true => rw [e1] at e; cases e
      | false =>
        cases e2 : r127 (widen (fc l i 0)) 0 with
        | true => rw [e1, e2] at e; cases e
        | false => rfl
  unfold r59b; rw [key]; rfl
/-! ### marks -/
theorem w1 {k : Int} (h0 : 0 ≤ k) (h1 : k ≤ 1000000000) : IntKind.i64.wrap (k + 1) = k + 1 := wrap_i64 (by omega) (by omega)
end Go.Proofs.Ytmknfenjnladeaa

namespace Go.Proofs.Ytmknfenjnladeaa
open Go.Ab Ieee

noncomputable def bkF (l : List (List Int)) (i : Nat) : Option (List Int) := if flt .f32 (fc l i 0) 0 = true then some [(i : Int)] else none
/-- the flues that are blown back -/
noncomputable def back (l : List (List Int)) : List (List Int) := (List.range l.length).filterMap (bkF l)
theorem back_len (l : List (List Int)) : (back l).length ≤ l.length := by
  unfold back
  have := List.length_filterMap_le (bkF l) (List.range l.length)
  rwa [List.length_range] at this
theorem backI {l : List (List Int)} (hl : l.length ≤ 6) : r62 l = (0, back l) := by
  have lp := app_loop (n := l.length) (f := bkF l) (G := fun m s i => r62l0 m ((l.length : Nat) : Int) i s l) (fuel := 1000 + l.length + 0) ?_ ?_ (by omega)
  · unfold r62
    rcases lp with e | ⟨e, e'⟩
    · have e2 : r62l0 (1000 + l.length + 0) ((l.length : Nat) : Int) 0 [] l = _ := e
      rw [e2]; rfl
    · have e2 : r62l0 (1000 + l.length + 0) ((l.length : Nat) : Int) 0 [] l = _ := e
      rw [e2]; unfold back; rw [e']; rfl
  · intro m s
    show b62l0 (r62l0 m) _ _ _ _ = _
    unfold b62l0
    rw [dlt_f (Nat.lt_irrefl _)]; rfl
  · intro m i s hi hs
    show b62l0 (r62l0 m) _ _ _ _ = _
    unfold b62l0 bkF
    simp only [take_all, Int.toNat_natCast]
    rw [dlt_t hi, dle0, blt_t hi, wrap_succ (by omega), show Nat.ble ((s.length + 1) * 9) 140737488355328 = true from Nat.ble_eq_true_of_le (by omega)]
    cases flt .f32 (fc l i 0) 0 <;> rfl
end Go.Proofs.Ytmknfenjnladeaa
