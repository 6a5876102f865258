/- Chimneys: what goes through a flue is a number. -/
import Derived.Test.YtdpkbkmmlbmllaaPcd1
import Derived.Test.YtdpkbkmmlbmllaaA32
namespace Go.Proofs.Ytdpkbkmmlbmllaa
open Go.Ab Ieee

theorem mul_bd {A B a b : Int} (h1 : -a ≤ A) (h2 : A ≤ a) (h3 : -b ≤ B) (h4 : B ≤ b) : -(a * b) ≤ A * B ∧ A * B ≤ a * b := by
  have e : ((A * B).natAbs : Int) ≤ a * b := by
    rw [Int.natAbs_mul, Int.natCast_mul]
    exact Int.mul_le_mul (by omega) (by omega) (by omega) (by omega)
  omega
theorem Fr_ub {a d c : Nat} {n v : Int} (h : Fr a n d) (hc : c < 2139095040) (ev : sv c = v) (g : n ≤ v * d) : sv a ≤ v := by
  rw [sv_pos (by omega)] at ev
  rw [← ev] at g ⊢
  exact h.le c hc g
theorem Fr_lb {a d c : Nat} {n v : Int} (h : Fr a n d) (hc : c < 2139095040) (ev : sv c = v) (g : v * d ≤ n) : v ≤ sv a := by
  rw [sv_pos (by omega)] at ev
  rw [← ev] at g ⊢
  exact h.ge c hc g
theorem Fr_lbn {a d c : Nat} {n v : Int} (h : Fr a n d) (hc : c < 2139095040) (ev : sv c = v) (g : -(v * d) ≤ n) : -v ≤ sv a := by
  rw [sv_pos (by omega)] at ev
  rw [← ev] at g ⊢
  exact h.ge' c hc g
/-! ### some numbers -/
theorem c0 : sv 0 = 0 := by decide +kernel
theorem cm60 : sv 3262119936 = -(60 * 2 ^ 149) := by decide +kernel
theorem c1500 : sv 1153138688 = 1500 * 2 ^ 149 := by decide +kernel
theorem c60 : sv 1114636288 = 60 * 2 ^ 149 := by decide +kernel
theorem cm1000 : sv 3296329728 = -(1000 * 2 ^ 149) := by decide +kernel
theorem c1000 : sv 1148846080 = 1000 * 2 ^ 149 := by decide +kernel
theorem c2000 : sv 1157234688 = 2000 * 2 ^ 149 := by decide +kernel
theorem c273 : sv 1133019136 = 273 * 2 ^ 149 := by decide +kernel
theorem c353 : sv 1135640576 = 353 * 2 ^ 149 := by decide +kernel
theorem c213 : sv 1129644032 = 213 * 2 ^ 149 := by decide +kernel
theorem c1773 : sv 1155375104 = 1773 * 2 ^ 149 := by decide +kernel
theorem c2 : sv 1073741824 = 2 * 2 ^ 149 := by decide +kernel
theorem c1 : sv 1065353216 = 2 ^ 149 := by decide +kernel
theorem c4 : sv 1082130432 = 4 * 2 ^ 149 := by decide +kernel
theorem c8 : sv 1090519040 = 8 * 2 ^ 149 := by decide +kernel
theorem c16 : sv 1098907648 = 16 * 2 ^ 149 := by decide +kernel
theorem c30 : sv 1106247680 = 30 * 2 ^ 149 := by decide +kernel
theorem c512 : sv 1140850688 = 512 * 2 ^ 149 := by decide +kernel
theorem c1024 : sv 1149239296 = 1024 * 2 ^ 149 := by decide +kernel
theorem c4096 : sv 1166016512 = 4096 * 2 ^ 149 := by decide +kernel
theorem c16th : sv 1031798784 = 2 ^ 145 := by decide +kernel
theorem c64th : sv 1015021568 = 2 ^ 143 := by decide +kernel
theorem c975 : 4 * sv 1092354048 = 39 * 2 ^ 149 := by decide +kernel
theorem c025 : sv 1048576000 = 2 ^ 147 := by decide +kernel
theorem c05 : sv 1056964608 = 2 ^ 148 := by decide +kernel
theorem cFM : 2 ^ 200 ≤ FM := by decide +kernel
theorem nn_fi {a : Nat} (h : Nn a) (h2 : a < 4294967296) {v : Int} (h3 : -v ≤ sv a) (h4 : sv a ≤ v) (hv : v ≤ FM) : Fi a := by
  unfold Nn at h
  unfold Fi
  have e := sv_abs a
  have g : ((rval F32 (a % 2147483648) : Nat) : Int) ≤ ((rval F32 2139095039 : Nat) : Int) := by
    show _ ≤ FM
    rw [← e]; omega
  have := rv_le_iff.1 (Int.ofNat_le.1 g)
  omega
theorem dns {a : Nat} (h1 : Fi a) (h2 : -(60 * 2 ^ 149) ≤ sv a) (h3 : sv a ≤ 1500 * 2 ^ 149) : Fi (r117 a) ∧ 0 ≤ sv (r117 a) ∧ sv (r117 a) ≤ 2 * 2 ^ 149 := by
  have f := cFM
  have a1 := add_fr h1 (b := 1133019136) (by unfold Fi; decide) (by rw [c273]; omega) (by rw [c273]; omega)
  rw [c273] at a1
  have l1 := Fr_lb a1 (by decide) c213 (by omega)
  have l2 := Fr_ub a1 (by decide) c1773 (by omega)
  unfold r117
  generalize fadd .f32 a 1133019136 = b at *
  have d1 := div_fr (a := 1135640576) (b := b) (by unfold Fi; decide) a1.fi (by omega) (by
    rw [c353]
    refine Int.le_trans ?_ (Int.mul_le_mul_of_nonneg_right f (by omega))
    refine Int.le_trans ?_ (Int.mul_le_mul_of_nonneg_left l1 (by decide))
    decide) (by
    rw [c353]
    have := Int.mul_nonneg (show 0 ≤ FM by omega) (show 0 ≤ sv b by omega)
    refine Int.le_trans (show -(FM * sv b) ≤ 0 by omega) ?_
    decide)
  rw [c353] at d1
  refine ⟨d1.fi, Fr_lb d1 (c := 0) (by decide) c0 (by rw [Int.zero_mul]; decide), Fr_ub d1 (by decide) c2 ?_⟩
  rw [Int.toNat_of_nonneg (by omega)]
  refine Int.le_trans ?_ (Int.mul_le_mul_of_nonneg_left l1 (by decide))
  decide
section
variable {H W T D o : Nat} (hf : FlueOk H W T D) (h3 : Nn o) (h0 : o < 4294967296) (h1 : sv 3262119936 ≤ sv o) (h2 : sv o ≤ sv 1114636288) (e : Int)
include hf h3 h0 h1 h2
theorem drf_ok : Fi (r110 H W T D e o) ∧ -(1024 * 2 ^ 149) ≤ sv (r110 H W T D e o) ∧ sv (r110 H W T D e o) ≤ 1024 * 2 ^ 149 := by
  have f := cFM
  have t1 := hf.t1
  have t2 := hf.t2
  have q1 := hf.h1
  have q2 := hf.h2
  rw [cm60] at h1 t1
  rw [c60] at h2
  rw [c1500] at t2
  rw [c16th] at q1
  rw [c30] at q2
  obtain ⟨a1, a2, a3⟩ := dns (a := o) (nn_fi h3 h0 (v := 60 * 2 ^ 149) (by omega) (by omega) (by omega)) (by omega) (by omega)
  obtain ⟨b1, b2, b3⟩ := dns (a := T) (nn_fi hf.tn hf.t0 (v := 1500 * 2 ^ 149) (by omega) (by omega) (by omega)) (by omega) (by omega)
  unfold r110
  generalize r117 o = x at *
  generalize r117 T = y at *
  have s1 := sub_fr a1 b1 (by omega) (by omega)
  have s2 := Fr_ub s1 (by decide) c2 (by omega)
  have s3 := Fr_lbn s1 (by decide) c2 (by omega)
  generalize fsub .f32 x y = z at *
  have k := c975
  have m1 := mul_fr (a := 1092354048) (b := H) (by unfold Fi; decide) (by have := hf.h; unfold Fi; omega) (by
    have : sv 1092354048 = 39 * 2 ^ 147 := by omega
    rw [this]; omega) (by
    have : sv 1092354048 = 39 * 2 ^ 147 := by omega
    rw [this]; omega)
  have k' : sv 1092354048 = 39 * 2 ^ 147 := by omega
  rw [k'] at m1
  have m2 := Fr_ub m1 (by decide) c512 (by
    have : ((2 ^ 149 : Nat) : Int) = 2 ^ 149 := by rw [Int.natCast_pow]; rfl
    rw [this]; omega)
  have m3 := Fr_lb m1 (c := 0) (by decide) c0 (by omega)
  generalize fmul .f32 1092354048 H = u at *
  have bd := mul_bd (A := sv u) (B := sv z) (a := 512 * 2 ^ 149) (b := 2 * 2 ^ 149) (by omega) (by omega) (by omega) (by omega)
  have n1 := mul_fr m1.fi s1.fi (by omega) (by omega)
  have cc : ((2 ^ 149 : Nat) : Int) = 2 ^ 149 := by rw [Int.natCast_pow]; rfl
  refine ⟨n1.fi, Fr_lbn n1 (by decide) c1024 (by rw [cc]; omega), Fr_ub n1 (by decide) c1024 (by rw [cc]; omega)⟩
end
theorem rung_le {a r : Nat} (ha : a < 2139095040) (hr : r < 2139095040) (h : sv a ≤ sv r) : a ≤ r := by
  rw [sv_pos (by omega), sv_pos (by omega)] at h
  exact rv_le_iff.1 (by omega)
theorem div_zero {a : Nat} (ha : a < 2139095040) (h0 : 0 < sv a) : fdiv .f32 a 0 = 2139095040 := by
  obtain ⟨s, m, i, e1, i1, v1⟩ := read_sv (a := a) (by unfold Fi; omega)
  have hm : m ≠ 0 := fun e => by
    rw [e, Nat.zero_mul] at v1
    cases s <;> simp at v1 <;> omega
  have hs : s = false := by
    cases s with
    | false => rfl
    | true => rw [if_pos rfl] at v1; omega
  subst hs
  have e2 : F32.read 0 = .number false 0 (-149) := by decide +kernel
  unfold fdiv Format.div
  rw [e1, e2]
  simp only [Datum.quotient, if_pos, if_neg hm, Option.map_some, Option.getD_some]
  decide +kernel
theorem res_ok {H W T D : Nat} (hf : FlueOk H W T D) (e : Int) : 1031798784 ≤ r111 H W T D e ∧ r111 H W T D e ≤ 2139095040 := by
  have lH := rung_le hf.h (by decide) hf.h2
  have lW := rung_le hf.w (by decide) hf.w2
  have lD := hf.d
  unfold r111
  have u1 : fmul .f32 1048576000 H ≤ 1090519040 := prod_pos (r1 := 1048576000) (r2 := 1106247680) (r := 1090519040) (by decide) lH (by decide) (by decide) (by decide) (by decide +kernel)
  generalize fmul .f32 1048576000 H = u at *
  have n1 : fadd .f32 1065353216 u ≤ 1098907648 := sum_pos (r1 := 1065353216) (r2 := 1090519040) (by decide) u1 (by decide) (by decide) (by decide) (by decide +kernel)
  have n2 : 2 ^ 149 ≤ sv (fadd .f32 1065353216 u) := by
    have f := cFM
    have p : 0 ≤ sv u := by rw [sv_pos (by omega)]; omega
    have q : sv u ≤ 8 * 2 ^ 149 := by
      rw [← c8, sv_pos (by omega), sv_pos (by decide)]
      exact Int.ofNat_le.2 (rv_le u1)
    have s1 := add_fr (a := 1065353216) (b := u) (by unfold Fi; decide) (by unfold Fi; omega) (by rw [c1]; omega) (by rw [c1]; omega)
    rw [c1] at s1
    exact Fr_lb s1 (by decide) c1 (by omega)
  generalize fadd .f32 1065353216 u = num at *
  have v1 : fmul .f32 W D ≤ 1082130432 := prod_pos (r1 := 1082130432) (r2 := 1065353216) (by omega) lD (by decide) (by decide) (by decide) (by decide +kernel)
  generalize fmul .f32 W D = v at *
  have d1 : fmul .f32 v v ≤ 1098907648 := prod_pos (r1 := 1082130432) (r2 := 1082130432) v1 v1 (by decide) (by decide) (by decide) (by decide +kernel)
  generalize fmul .f32 v v = den at *
  by_cases hd : den = 0
  · subst hd
    rw [div_zero (by omega) (by omega)]
    decide
  · have hdp : 0 < sv den := by
      rw [sv_pos (by omega)]
      have := (rval_lt_iff F32 0 den).2 (by omega)
      omega
    have hdl : sv den ≤ 16 * 2 ^ 149 := by
      rw [← c16, sv_pos (by omega), sv_pos (by decide)]
      exact Int.ofNat_le.2 (rv_le d1)
    exact div_ge (by omega) (by unfold Fi; omega) hdp (by decide) (by
      rw [← sv_pos (a := 1031798784) (by decide), c16th]
      refine Int.le_trans (Int.mul_le_mul_of_nonneg_left hdl (by decide)) ?_
      refine Int.le_trans ?_ (Int.mul_le_mul_of_nonneg_right n2 (by decide))
      decide)
/-- what a push may be -/
structure PuOk (p : Nat) : Prop where
  f : Fi p
  l : p < 4294967296
  lo : -(2000 * 2 ^ 149) ≤ sv p
  hi : sv p ≤ 2000 * 2 ^ 149
section
variable {H W T D o p : Nat} (hf : FlueOk H W T D) (h3 : Nn o) (h0 : o < 4294967296) (h1 : sv 3262119936 ≤ sv o) (h2 : sv o ≤ sv 1114636288) (e : Int) (hp : PuOk p)
include hf h3 h0 h1 h2 hp
theorem x_ok : Fi (fdiv .f32 (fadd .f32 (r110 H W T D e o) p) (r111 H W T D e)) ∧ fdiv .f32 (fadd .f32 (r110 H W T D e o) p) (r111 H W T D e) < 4294967296 := by
  have f := cFM
  obtain ⟨d1, d2, d3⟩ := drf_ok hf h3 h0 h1 h2 e
  obtain ⟨q1, q2⟩ := res_ok hf e
  have p1 := hp.lo
  have p2 := hp.hi
  have s1 := add_fr d1 hp.f (by omega) (by omega)
  have s2 := Fr_ub s1 (by decide) c4096 (by omega)
  have s3 := Fr_lbn s1 (by decide) c4096 (by omega)
  refine ⟨?_, fdiv_lt _ _⟩
  generalize fadd .f32 (r110 H W T D e o) p = y at *
  generalize r111 H W T D e = q at *
  by_cases hq : q = 2139095040
  · subst hq
    obtain ⟨s, m, i, e1, i1, v1⟩ := read_sv s1.fi
    have e2 : F32.read 2139095040 = .infinity false := by decide +kernel
    unfold fdiv Format.div
    rw [e1, e2]
    simp only [Datum.quotient, Option.map_some, Option.getD_some]
    cases s <;> (unfold Fi; decide +kernel)
  · have hql : 2 ^ 145 ≤ sv q := by
      rw [← c16th, sv_pos (by decide), sv_pos (by omega)]
      exact Int.ofNat_le.2 (rv_le q1)
    have big := Int.mul_le_mul (a := 2 ^ 200) (b := 2 ^ 145) (c := FM) (d := sv q) f hql (by decide) (by omega)
    have big2 : 4096 * 2 ^ 149 * 2 ^ 149 ≤ FM * sv q := Int.le_trans (by decide) big
    exact (div_fr s1.fi (by unfold Fi; omega) (by omega) (Int.le_trans (Int.mul_le_mul_of_nonneg_right s2 (by decide)) big2) (by omega)).fi
end
/-- a root of what a root can be drawn from -/
theorem root_ok {a : Nat} (h : a < 2139095040 ∨ a = 2147483648) : ∃ q, r112 a = (0, q) ∧ Fi q ∧ q < 4294967296 ∧ (a = 2147483648 → q = 2147483648) ∧ (a < 2139095040 → q < 2139095040) := by
  unfold r112 r116
  rcases h with h | rfl
  · obtain ⟨q, q1, q2, q3, _⟩ := root_fr h
    rw [q2, q3]
    exact ⟨q, rfl, by unfold Fi; omega, by omega, fun e => by omega, fun _ => q1⟩
  · refine ⟨2147483648, by decide +kernel, by unfold Fi; decide, by decide, fun _ => rfl, fun g => by omega⟩
theorem zero_word {x : Nat} (h1 : 2147483648 ≤ x) (h2 : x < 4294967296) (h : ¬ sv x < 0) : x = 2147483648 := by
  rw [sv_neg h1 h2] at h
  have : rval F32 (x - 2147483648) = 0 := by omega
  have := rval_inj F32 (this.trans (rval_zero F32).symm)
  omega
/-- what goes through a flue -/
noncomputable def thr (H W T D : Nat) (e : Int) (o p : Nat) : Nat := (r93 H W T D e o p).2
theorem thr_ok {H W T D o p : Nat} (hf : FlueOk H W T D) (h3 : Nn o) (h0 : o < 4294967296) (h1 : sv 3262119936 ≤ sv o) (h2 : sv o ≤ sv 1114636288) (e : Int) (hp : PuOk p) : r93 H W T D e o p = (0, thr H W T D e o p) ∧ Fi (thr H W T D e o p) ∧ thr H W T D e o p < 4294967296 := by
  obtain ⟨x1, x2⟩ := x_ok hf h3 h0 h1 h2 e hp
  have key : ∃ v, r93 H W T D e o p = (0, v) ∧ Fi v ∧ v < 4294967296 := by
    unfold r93
    generalize fdiv .f32 (fadd .f32 (r110 H W T D e o) p) (r111 H W T D e) = x at *
    cases feq .f32 D 0 with
    | true => exact ⟨0, rfl, by unfold Fi; decide, by decide⟩
    | false =>
      rw [flt_sv x1.nn (by unfold Nn; decide) x2 (by decide), c0]
      by_cases hx : sv x < 0
      · rw [decide_eq_true hx]
        have hx31 : 2147483648 ≤ x := Nat.le_of_not_lt fun g => by rw [sv_pos g] at hx; omega
        obtain ⟨b, rfl⟩ : ∃ b, x = 2147483648 + b := ⟨x - 2147483648, by omega⟩
        unfold Fi at x1
        rw [neg_neg (by omega)]
        obtain ⟨q, e1, e2, e3, _, e5⟩ := root_ok (a := b) (.inl (by omega))
        rw [e1]
        exact ⟨fneg .f32 q, rfl, e2.neg e3, fneg_lt _ e3⟩
      · rw [decide_eq_false hx]
        have hc : x < 2139095040 ∨ x = 2147483648 := by
          unfold Fi at x1
          by_cases g : x < 2147483648
          · exact .inl (by omega)
          · exact .inr (zero_word (by omega) x2 hx)
        obtain ⟨q, e1, e2, e3, _⟩ := root_ok hc
        rw [e1]
        exact ⟨q, rfl, e2, e3⟩
  obtain ⟨v, e1, e2, e3⟩ := key
  unfold thr
  rw [e1]
  exact ⟨rfl, e2, e3⟩
/-- the reference's -/
theorem flowS {t : List (List Int)} {i o p : Nat} (hi : i < t.length) (h : ∃ v, r93 (fc t i 0) (fc t i 1) (fc t i 2) (fc t i 3) (ic t i 4) o p = (0, v)) : r98 i o p t = r93 (fc t i 0) (fc t i 1) (fc t i 2) (fc t i 3) (ic t i 4) o p := by
  obtain ⟨v, h⟩ := h
  unfold r98 r114 r115
  rw [blt_t hi]
  unfold r93 r112 r110 r111 at h ⊢
  have e120 : ∀ a, r120 a = r117 a := fun a => rfl
  simp only [e120, cond_true, Nat.beq] at h ⊢
  cases feq .f32 (fc t i 3) 0 with
  | true => rfl
  | false =>
    simp only [cond_false]
    cases flt .f32 (fdiv .f32 (fadd .f32 (fmul .f32 (fmul .f32 1092354048 (fc t i 0)) (fsub .f32 (r117 o) (r117 (fc t i 2)))) p) (fdiv .f32 (fadd .f32 1065353216 (fmul .f32 1048576000 (fc t i 0))) (fmul .f32 (fmul .f32 (fc t i 1) (fc t i 3)) (fmul .f32 (fc t i 1) (fc t i 3))))) 0 with
    | true =>
      simp only [cond_true]
      cases narrowOk (r116 (widen (fneg .f32 (fdiv .f32 (fadd .f32 (fmul .f32 (fmul .f32 1092354048 (fc t i 0)) (fsub .f32 (r117 o) (r117 (fc t i 2)))) p) (fdiv .f32 (fadd .f32 1065353216 (fmul .f32 1048576000 (fc t i 0))) (fmul .f32 (fmul .f32 (fc t i 1) (fc t i 3)) (fmul .f32 (fc t i 1) (fc t i 3)))))))) <;> rfl
    | false =>
      simp only [cond_false]
      cases narrowOk (r116 (widen (fdiv .f32 (fadd .f32 (fmul .f32 (fmul .f32 1092354048 (fc t i 0)) (fsub .f32 (r117 o) (r117 (fc t i 2)))) p) (fdiv .f32 (fadd .f32 1065353216 (fmul .f32 1048576000 (fc t i 0))) (fmul .f32 (fmul .f32 (fc t i 1) (fc t i 3)) (fmul .f32 (fc t i 1) (fc t i 3))))))) <;> rfl
end Go.Proofs.Ytdpkbkmmlbmllaa
