/- Float32: the square root, taken as a float64. -/
import Derived.Test.YtmknfenjnladeaaA30
namespace Go.Ab
open Ieee

abbrev F64 : Format := FloatKind.f64.format
theorem D_inf : F64.infRung = 9218868437227405312 := by decide +kernel
theorem D_sw : F64.signWeight = 9223372036854775808 := by decide +kernel
theorem D_lp : F64.leastPlace = -1074 := by decide +kernel
theorem D_bin : F64.binade = 2 ^ 52 := by decide +kernel
theorem F_bin : F32.binade = 2 ^ 23 := by decide +kernel

theorem read64 {q : Nat} (h : q < 9218868437227405312) : ∃ m i, F64.read q = .number false m i ∧ -1074 ≤ i ∧ m * 2 ^ (i + 1074).toNat = rval F64 q := by
  have hm : q % 9223372036854775808 = q := Nat.mod_eq_of_lt (by omega)
  obtain ⟨m, i, h1, h2, h3⟩ := read_fin F64 q (by rw [D_sw, D_inf, hm]; exact h)
  rw [D_sw] at h1 h3
  rw [D_lp] at h2 h3
  rw [hm, show i - -1074 = i + 1074 by omega] at h3
  rw [Nat.div_eq_of_lt (by omega)] at h1
  exact ⟨m, i, h1, h2, h3⟩
/-- how many units of a float64 make one of a float32 -/
def TBn : Nat := 925
def TB : Nat := 2 ^ TBn
theorem tbn : TBn = 925 := rfl
theorem tb_pos : 0 < TB := Nat.two_pow_pos TBn
theorem tb_add {a b : Nat} (h : a = b + 925) : 2 ^ b * TB = 2 ^ a := by
  unfold TB
  rw [← Nat.pow_add, tbn, ← h]
theorem tb_eq {a b : Nat} (h : a + b = 925) : 2 ^ a * 2 ^ b = TB := by
  unfold TB
  rw [← Nat.pow_add, tbn, h]
/-- a float32's magnitude is one of a float64 -/
theorem rung64 (r : Nat) (hr : r < 2139095040) : ∃ q, q < 9218868437227405312 ∧ rval F64 q = rval F32 r * TB := by
  obtain ⟨m, i, e, hi, v, _⟩ := read_le (le_of_pos (Nat.le_refl r) (by omega)) hr
  rw [Nat.mod_eq_of_lt (by omega)] at v
  by_cases h0 : m = 0
  · refine ⟨0, by decide, ?_⟩
    rw [rval_zero, ← v, h0, Nat.zero_mul, Nat.zero_mul]
  · have hm : m < 2 ^ 24 ∧ i ≤ 104 := by
      unfold Format.read at e
      rw [F_sw, F_bin, F_inf, F_lp] at e
      simp only at e
      rw [Nat.mod_eq_of_lt (show r < 2147483648 by omega)] at e
      split at e
      · cases e; omega
      · cases e
        have := Nat.mod_lt r (show 0 < 2 ^ 23 by decide)
        omega
    have hl : m.log2 < 24 := (Nat.log2_lt h0).2 hm.1
    have h1 : 2 ^ m.log2 ≤ m := Nat.log2_self_le h0
    have h2 : m < 2 ^ (m.log2 + 1) := Nat.lt_log2_self
    generalize hE : (i + 1074 - (52 - m.log2 : Nat)).toNat = E
    have hE1 : E ≤ 1178 := by omega
    have hE2 : (i + 1074).toNat = E + (52 - m.log2) := by omega
    refine ⟨E * F64.binade + m * 2 ^ (52 - m.log2), ?_, ?_⟩
    · have h3 : m * 2 ^ (52 - m.log2) < 2 ^ 53 := by
        refine Nat.lt_of_lt_of_le (Nat.mul_lt_mul_of_pos_right h2 (Nat.two_pow_pos _)) ?_
        rw [← Nat.pow_add]; exact Nat.pow_le_pow_right (by decide) (by omega)
      have h4 := Nat.mul_le_mul_right (2 ^ 52) hE1
      rw [D_bin]; omega
    · rw [rval_mul]
      · rw [Nat.mul_assoc, ← Nat.pow_add, show 52 - m.log2 + E = (i + 1074).toNat by omega, ← v, Nat.mul_assoc, tb_add (a := (i + 1074).toNat) (by omega)]
      · rw [D_bin]
        refine Nat.le_trans ?_ (Nat.mul_le_mul_right _ h1)
        rw [← Nat.pow_add]; exact Nat.pow_le_pow_right (by decide) (by omega)
      · rw [D_bin, ← Nat.pow_succ']
        refine Nat.le_trans (Nat.mul_le_mul_right _ (Nat.le_of_lt h2)) ?_
        rw [← Nat.pow_add]; exact Nat.pow_le_pow_right (by decide) (by omega)
/-- a number as a float64 is told exactly -/
theorem widen_val {x : Nat} (hx : x < 2139095040) : ∃ q, widen x = q ∧ q < 9218868437227405312 ∧ rval F64 q = rval F32 x * TB := by
  obtain ⟨q, hq, hv⟩ := rung64 x hx
  obtain ⟨m, i, e, hi, v, _⟩ := read_le (le_of_pos (Nat.le_refl x) (by omega)) hx
  rw [Nat.mod_eq_of_lt (by omega)] at v
  rw [sgn_pos (by omega)] at e
  have hw : widen x = F64.nearest false m i := by
    unfold widen
    rw [show FloatKind.f32.decode x = .number false m i from e]
    rfl
  have h1 : m * 2 ^ (i - F64.leastPlace).toNat = rval F64 q * 2 ^ (F64.leastPlace - i).toNat := by
    rw [D_lp, hv, ← v, show (-1074 - i).toNat = 0 by omega, Nat.pow_zero, Nat.mul_one, Nat.mul_assoc, tb_add (a := (i - -1074).toNat) (by omega)]
  obtain ⟨a, ha, ea⟩ := nearest_le F64 false m i q (by rw [D_inf]; omega) (Nat.le_of_eq h1)
  obtain ⟨b, hb, eb⟩ := nearest_ge F64 false m i q (by rw [D_inf]; omega) (Nat.le_of_eq h1.symm)
  have hab : a = b := ea.symm.trans eb
  refine ⟨q, ?_, hq, hv⟩
  rw [hw, ea]
  show a = q
  omega

/-- the square root of what is not below nought -/
theorem root_fr {x : Nat} (hx : x < 2139095040) : ∃ q, q < 2139095040 ∧ narrowOk (fsqrt .f64 (widen x)) = true ∧ narrow (fsqrt .f64 (widen x)) = q ∧
    ∀ r, r < 2139095040 → (rval F32 x * 2 ^ 149 ≤ rval F32 r * rval F32 r → q ≤ r) ∧ (rval F32 r * rval F32 r ≤ rval F32 x * 2 ^ 149 → r ≤ q) := by
  obtain ⟨w, ew, hw, vw⟩ := widen_val hx
  rw [ew]
  obtain ⟨m, i, e, hi, v⟩ := read64 hw
  rw [vw] at v
  -- the root as a float64
  have key : ∃ q1, q1 < 9218868437227405312 ∧ fsqrt .f64 w = q1 ∧ ∀ r, r < 2139095040 → (rval F32 x * 2 ^ 149 ≤ rval F32 r * rval F32 r → rval F64 q1 ≤ rval F32 r * TB) ∧ (rval F32 r * rval F32 r ≤ rval F32 x * 2 ^ 149 → rval F32 r * TB ≤ rval F64 q1) := by
    have hs : fsqrt .f64 w = (((Datum.number false m i).root 54).map F64.write).getD (qnan .f64) := by
      unfold fsqrt Format.sqrt
      rw [show FloatKind.f64.format.read w = _ from e]
      rfl
    by_cases hm : m = 0
    · subst hm
      have x0 : rval F32 x = 0 := by
        rw [Nat.zero_mul] at v
        exact (Nat.mul_eq_zero.1 v.symm).resolve_right (Nat.ne_of_gt tb_pos)
      refine ⟨0, by decide, ?_, fun r _ => ⟨fun _ => by rw [rval_zero]; exact Nat.zero_le _, fun g => ?_⟩⟩
      · rw [hs]; rfl
      · rw [x0, Nat.zero_mul] at g
        have : rval F32 r = 0 := by
          rcases Nat.mul_eq_zero.1 (Nat.le_zero.1 g) with h | h <;> exact h
        rw [this, Nat.zero_mul]; exact Nat.zero_le _
    · have hl1 : 2 ^ m.log2 ≤ m := Nat.log2_self_le hm
      obtain ⟨more, hmo⟩ : ∃ more, 2 * 54 - m.log2 + ((i - ((2 * 54 - m.log2 : Nat) : Int)) % 2).toNat = more := ⟨_, rfl⟩
      have hev : (i - (more : Int)) % 2 = 0 := by omega
      have hmore : more ≤ 109 ∧ 108 ≤ m.log2 + more := by omega
      have hN : 2 ^ 108 ≤ m * 2 ^ more := by
        refine Nat.le_trans ?_ (Nat.mul_le_mul_right _ hl1)
        rw [← Nat.pow_add]; exact Nat.pow_le_pow_right (by decide) hmore.2
      obtain ⟨W1, W2⟩ := root_spec (m * 2 ^ more) ((m * 2 ^ more).log2 / 2 + 1) 0 (by simp) (by
        rw [Nat.zero_add, ← Nat.pow_add]
        exact Nat.lt_of_lt_of_le Nat.lt_log2_self (Nat.pow_le_pow_right (by decide) (by omega)))
      have hs2 : fsqrt .f64 w = F64.nearest false (2 * Datum.rootFrom (m * 2 ^ more) ((m * 2 ^ more).log2 / 2 + 1) 0 + (Datum.rootFrom (m * 2 ^ more) ((m * 2 ^ more).log2 / 2 + 1) 0 * Datum.rootFrom (m * 2 ^ more) ((m * 2 ^ more).log2 / 2 + 1) 0 != m * 2 ^ more).toNat) ((i - more) / 2 - 1) := by
        rw [hs]
        unfold Datum.root
        simp only [if_neg hm, Bool.false_eq_true, if_false, hmo, Nat.shiftLeft_eq, Option.map_some, Option.getD_some]
        rfl
      generalize Datum.rootFrom (m * 2 ^ more) ((m * 2 ^ more).log2 / 2 + 1) 0 = W at *
      have hW : 2 ^ 24 ≤ W := by
        refine Nat.le_of_not_lt fun g => ?_
        have h1 : (W + 1) * (W + 1) ≤ 2 ^ 24 * 2 ^ 24 := Nat.mul_le_mul g g
        have h2 : 2 ^ 24 * 2 ^ 24 ≤ 2 ^ 108 := by decide
        omega
      have st := stk_root W1 W2 hW
      generalize 2 * W + (W * W != m * 2 ^ more).toNat = Q at *
      obtain ⟨h, hh⟩ : ∃ h, (i - (more : Int)) / 2 = h := ⟨_, rfl⟩
      have h2 : i - more = 2 * h := by omega
      rw [hh] at hs2
      -- the number in the root's digits
      have t1 : ∀ k : Nat, h + 149 = -(k : Int) → m * 2 ^ more = rval F32 x * 2 ^ 149 * (2 ^ k * 2 ^ k) := fun k hk => by
        refine Nat.eq_of_mul_eq_mul_right (Nat.two_pow_pos (i + 1074).toNat) ?_
        rw [Nat.mul_right_comm, v, Nat.mul_assoc, Nat.mul_comm TB, tb_add (a := more + 925) rfl, Nat.mul_assoc, Nat.mul_assoc, ← Nat.pow_add, ← Nat.pow_add, ← Nat.pow_add]
        congr 2; omega
      have t2 : ∀ k : Nat, h + 149 = (k : Int) → m * 2 ^ more * (2 ^ k * 2 ^ k) = rval F32 x * 2 ^ 149 := fun k hk => by
        refine Nat.eq_of_mul_eq_mul_right (Nat.two_pow_pos (i + 1074).toNat) ?_
        rw [Nat.mul_right_comm, Nat.mul_right_comm m, v, Nat.mul_assoc, Nat.mul_assoc, Nat.mul_assoc, ← Nat.pow_add, ← Nat.pow_add, ← Nat.pow_add, Nat.mul_comm TB, tb_add (a := more + (k + k) + 925) rfl]
        congr 2; omega
      have ups : ∀ r, rval F32 x * 2 ^ 149 ≤ rval F32 r * rval F32 r → Q * 2 ^ (h - 1 + 1074).toNat ≤ rval F32 r * TB := fun r g => by
        have := st.up (e := h) (r := r) (t := TBn) (by rw [tbn]; omega) (fun k hk => ?_) (fun k hk => ?_)
        · rw [show (((TBn : Nat) : Int) + h + 148).toNat = (h - 1 + 1074).toNat by rw [tbn]; omega] at this
          exact this
        · show m * 2 ^ more ≤ rval F32 r * 2 ^ k * (rval F32 r * 2 ^ k)
          rw [t1 k hk, Nat.mul_mul_mul_comm (rval F32 r)]
          exact Nat.mul_le_mul_right _ g
        · have h3 : m * 2 ^ more * (2 ^ k * 2 ^ k) ≤ rval F32 r * rval F32 r := by rw [t2 k hk]; exact g
          refine ⟨?_, fun c hc => ?_⟩
          · refine sq_le.1 (Nat.le_trans ?_ h3)
            rw [Nat.mul_mul_mul_comm W]
            exact Nat.mul_le_mul_right _ W1
          · show m * 2 ^ more ≤ c * c
            rw [hc, Nat.mul_mul_mul_comm c] at h3
            exact Nat.le_of_mul_le_mul_right h3 (Nat.mul_pos (Nat.two_pow_pos _) (Nat.two_pow_pos _))
      have dns : ∀ r, rval F32 r * rval F32 r ≤ rval F32 x * 2 ^ 149 → rval F32 r * TB ≤ Q * 2 ^ (h - 1 + 1074).toNat := fun r g => by
        have := st.dn (e := h) (r := r) (t := TBn) (by rw [tbn]; omega) (fun k hk => ?_) (fun k hk => ?_)
        · rw [show (((TBn : Nat) : Int) + h + 148).toNat = (h - 1 + 1074).toNat by rw [tbn]; omega] at this
          exact this
        · show rval F32 r * 2 ^ k * (rval F32 r * 2 ^ k) ≤ m * 2 ^ more
          rw [t1 k hk, Nat.mul_mul_mul_comm (rval F32 r)]
          exact Nat.mul_le_mul_right _ g
        · have h3 : rval F32 r * rval F32 r ≤ m * 2 ^ more * (2 ^ k * 2 ^ k) := by rw [t2 k hk]; exact g
          intro c hc
          show c * c ≤ m * 2 ^ more
          rw [hc, Nat.mul_mul_mul_comm c] at h3
          exact Nat.le_of_mul_le_mul_right h3 (Nat.mul_pos (Nat.two_pow_pos _) (Nat.two_pow_pos _))
      have ge64 : ∀ r, r < 2139095040 → rval F32 x * 2 ^ 149 ≤ rval F32 r * rval F32 r → ∃ c, c < 9218868437227405312 ∧ F64.nearest false Q (h - 1) = c ∧ rval F64 c ≤ rval F32 r * TB := fun r hr g => by
        obtain ⟨q, hq, hv⟩ := rung64 r hr
        obtain ⟨c, hc, ec⟩ := nearest_le F64 false Q (h - 1) q (by rw [D_inf]; omega) (by
          rw [D_lp, show h - 1 - -1074 = h - 1 + 1074 by omega, show (-1074 - (h - 1)).toNat = 0 by omega, Nat.pow_zero, Nat.mul_one, hv]
          exact ups r g)
        refine ⟨c, by omega, ec, ?_⟩
        rw [← hv]
        rcases Nat.lt_or_eq_of_le hc with h5 | h5
        · exact Nat.le_of_lt (rval_lt _ h5)
        · rw [h5]; exact Nat.le_refl _
      obtain ⟨c, hc, ec, _⟩ := ge64 2139095039 (by decide) (by
        have h5 : rval F32 x ≤ rval F32 2139095039 := rv_le (by omega)
        refine Nat.mul_le_mul h5 ?_
        decide +kernel)
      refine ⟨c, hc, by rw [hs2, ec], fun r hr => ⟨fun g => ?_, fun g => ?_⟩⟩
      · obtain ⟨c', _, ec', h5⟩ := ge64 r hr g
        rw [ec] at ec'
        rw [ec']; exact h5
      · obtain ⟨q, hq, hv⟩ := rung64 r hr
        obtain ⟨c', hc', ec'⟩ := nearest_ge F64 false Q (h - 1) q (by rw [D_inf]; omega) (by
          rw [D_lp, show h - 1 - -1074 = h - 1 + 1074 by omega, show (-1074 - (h - 1)).toNat = 0 by omega, Nat.pow_zero, Nat.mul_one, hv]
          exact dns r g)
        rw [ec] at ec'
        rw [← hv]
        have h6 : q ≤ c := by rw [show c = c' from ec']; exact hc'
        rcases Nat.lt_or_eq_of_le h6 with h5 | h5
        · exact Nat.le_of_lt (rval_lt _ h5)
        · rw [h5]; exact Nat.le_refl _
  obtain ⟨q1, hq1, es, hr1⟩ := key
  rw [es]
  obtain ⟨m1, i1, e1, hi1, v1⟩ := read64 hq1
  have hn : narrow q1 = F32.nearest false m1 i1 := by
    unfold narrow
    rw [show FloatKind.f64.decode q1 = .number false m1 i1 from e1]
    rfl
  have up32 : ∀ r, rval F64 q1 ≤ rval F32 r * TB → m1 * 2 ^ (i1 - F32.leastPlace).toNat ≤ rval F32 r * 2 ^ (F32.leastPlace - i1).toNat := fun r g => by
    rw [F_lp, show i1 - -149 = i1 + 149 by omega]
    rw [← v1] at g
    by_cases hp : -149 ≤ i1
    · rw [show (-149 - i1).toNat = 0 by omega, Nat.pow_zero, Nat.mul_one]
      refine Nat.le_of_mul_le_mul_right (c := TB) ?_ tb_pos
      rw [Nat.mul_assoc, tb_add (a := (i1 + 1074).toNat) (by omega)]; exact g
    · rw [show (i1 + 149).toNat = 0 by omega, Nat.pow_zero, Nat.mul_one]
      refine Nat.le_of_mul_le_mul_right (c := 2 ^ (i1 + 1074).toNat) ?_ (Nat.two_pow_pos _)
      rw [Nat.mul_assoc, tb_eq (by omega)]; exact g
  have dn32 : ∀ r, rval F32 r * TB ≤ rval F64 q1 → rval F32 r * 2 ^ (F32.leastPlace - i1).toNat ≤ m1 * 2 ^ (i1 - F32.leastPlace).toNat := fun r g => by
    rw [F_lp, show i1 - -149 = i1 + 149 by omega]
    rw [← v1] at g
    by_cases hp : -149 ≤ i1
    · rw [show (-149 - i1).toNat = 0 by omega, Nat.pow_zero, Nat.mul_one]
      refine Nat.le_of_mul_le_mul_right (c := TB) ?_ tb_pos
      rw [Nat.mul_assoc, tb_add (a := (i1 + 1074).toNat) (by omega)]; exact g
    · rw [show (i1 + 149).toNat = 0 by omega, Nat.pow_zero, Nat.mul_one]
      refine Nat.le_of_mul_le_mul_right (c := 2 ^ (i1 + 1074).toNat) ?_ (Nat.two_pow_pos _)
      rw [Nat.mul_assoc, tb_eq (by omega)]; exact g
  obtain ⟨q, hq, eq⟩ := nearest_le F32 false m1 i1 2139095039 (by rw [F_inf]; decide) (up32 _ ((hr1 _ (by decide)).1 (by
    have h5 : rval F32 x ≤ rval F32 2139095039 := rv_le (by omega)
    refine Nat.mul_le_mul h5 ?_
    decide +kernel)))
  have en : narrow q1 = q := by rw [hn, eq]; rfl
  refine ⟨q, by omega, ?_, en, fun r hr => ⟨fun g => ?_, fun g => ?_⟩⟩
  · unfold narrowOk
    rw [show FloatKind.f64.decode q1 = .number false m1 i1 from e1, en]
    obtain ⟨s', m', i', e', _⟩ := read_sv (a := q) (by unfold Fi; omega)
    rw [show FloatKind.f32.decode q = .number s' m' i' from e']
    rfl
  · obtain ⟨q', hq', eq'⟩ := nearest_le F32 false m1 i1 r (by rw [F_inf]; omega) (up32 r ((hr1 r hr).1 g))
    have : q = q' := eq.symm.trans eq'
    omega
  · obtain ⟨q', hq', eq'⟩ := nearest_ge F32 false m1 i1 r (by rw [F_inf]; omega) (dn32 r ((hr1 r hr).2 g))
    have : q = q' := eq.symm.trans eq'
    omega
end Go.Ab
