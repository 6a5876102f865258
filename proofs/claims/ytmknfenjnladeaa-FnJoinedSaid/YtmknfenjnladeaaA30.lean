/- Float32: quotients and square roots lie where the exact answers lie. -/
import Derived.Test.YtmknfenjnladeaaA29
namespace Go.Ab
open Ieee

/-- great magnitudes lie far apart -/
theorem rep_grid (r k : Nat) (h : 2 ^ (k + 23) ≤ rval F32 r) : ∃ c, rval F32 r = c * 2 ^ k := by
  have hB : F32.binade = 2 ^ 23 := by decide +kernel
  unfold rval at h ⊢
  rw [hB] at h ⊢
  by_cases h1 : r < 2 ^ 23
  · rw [if_pos h1] at h
    have : 2 ^ 23 ≤ 2 ^ (k + 23) := Nat.pow_le_pow_right (by decide) (by omega)
    omega
  · rw [if_neg h1] at h ⊢
    have h2 : 2 ^ 23 + r % 2 ^ 23 < 2 ^ 24 := by
      have := Nat.mod_lt r (show 0 < 2 ^ 23 by decide)
      omega
    have h3 : 2 ^ (k + 23) < 2 ^ (24 + (r / 2 ^ 23 - 1)) := by
      rw [Nat.pow_add 2 24]
      exact Nat.lt_of_le_of_lt h (Nat.mul_lt_mul_of_pos_right h2 (Nat.two_pow_pos _))
    have h4 := (Nat.pow_lt_pow_iff_right (by decide : 1 < 2)).1 h3
    refine ⟨(2 ^ 23 + r % 2 ^ 23) * 2 ^ (r / 2 ^ 23 - 1 - k), ?_⟩
    rw [Nat.mul_assoc, ← Nat.pow_add]
    congr 2
    omega

/-- what is left over is told by one digit more -/
structure Stk (Q F : Nat) (U L : Nat → Prop) : Prop where
  lo : 2 ^ 24 ≤ F
  q1 : 2 * F ≤ Q
  u : ∀ c, U c → F ≤ c ∧ Q ≤ 2 * c
  d : ∀ c, L c → c ≤ F
theorem stk_quot {D n : Nat} (hn : 0 < n) (hF : 2 ^ 24 ≤ D / n) : Stk (2 * (D / n) + (D % n != 0).toNat) (D / n) (fun c => D ≤ c * n) (fun c => c * n ≤ D) := by
  have hdm := Nat.div_add_mod D n
  have hm := Nat.mod_lt D hn
  refine ⟨hF, Nat.le_add_right _ _, fun c hc => ?_, fun c hc => (Nat.le_div_iff_mul_le hn).2 hc⟩
  have h1 : D / n ≤ c := by
    refine Nat.le_of_mul_le_mul_right (c := n) ?_ hn
    exact Nat.le_trans (Nat.div_mul_le_self _ _) hc
  refine ⟨h1, ?_⟩
  by_cases h0 : D % n = 0
  · rw [h0]; exact Nat.mul_le_mul_left 2 h1
  · have h2 : D / n ≠ c := fun e => by
      rw [← e, Nat.mul_comm] at hc
      omega
    have : (D % n != 0).toNat ≤ 1 := by cases (D % n != 0) <;> decide
    omega
theorem root_spec (n : Nat) : ∀ (todo root : Nat), root * root ≤ n → n < (root + 2 ^ todo) * (root + 2 ^ todo) → Datum.rootFrom n todo root * Datum.rootFrom n todo root ≤ n ∧ n < (Datum.rootFrom n todo root + 1) * (Datum.rootFrom n todo root + 1)
  | 0, root, h1, h2 => ⟨h1, h2⟩
  | todo + 1, root, h1, h2 => by
    unfold Datum.rootFrom
    simp only [Nat.one_shiftLeft]
    by_cases h : (root + 2 ^ todo) * (root + 2 ^ todo) ≤ n
    · rw [if_pos h]
      exact root_spec n todo _ h (by rw [Nat.add_assoc, ← Nat.two_mul, ← Nat.pow_succ']; exact h2)
    · rw [if_neg h]
      exact root_spec n todo _ h1 (by omega)
theorem sq_le {a b : Nat} : a * a ≤ b * b ↔ a ≤ b := by
  refine ⟨fun h => Nat.le_of_not_lt fun g => ?_, fun h => Nat.mul_le_mul h h⟩
  have := Nat.mul_lt_mul_of_lt_of_lt g g
  omega
theorem stk_root {N W : Nat} (h1 : W * W ≤ N) (h2 : N < (W + 1) * (W + 1)) (hW : 2 ^ 24 ≤ W) : Stk (2 * W + (W * W != N).toNat) W (fun c => N ≤ c * c) (fun c => c * c ≤ N) := by
  refine ⟨hW, Nat.le_add_right _ _, fun c hc => ?_, fun c hc => ?_⟩
  · have h3 : W ≤ c := sq_le.1 (Nat.le_trans h1 hc)
    refine ⟨h3, ?_⟩
    by_cases h0 : W * W = N
    · rw [h0, bne_self_eq_false]; exact Nat.mul_le_mul_left 2 h3
    · have h4 : W ≠ c := fun e => by rw [e] at h1 h0; omega
      have : (W * W != N).toNat ≤ 1 := by cases (W * W != N) <;> decide
      omega
  · refine Nat.le_of_not_lt fun g => ?_
    have : (W + 1) * (W + 1) ≤ c * c := Nat.mul_le_mul g g
    omega
/-- a rung against a magnitude with so many digits and one that tells what is left over: below the least place -/
theorem Stk.up1 {Q F : Nat} {U L : Nat → Prop} (h : Stk Q F U L) {R k : Nat} (g : U (R * 2 ^ k)) : Q ≤ R * 2 ^ (k + 1) := by
  rw [Nat.pow_succ, ← Nat.mul_assoc, Nat.mul_comm _ 2]; exact (h.u _ g).2
theorem Stk.dn1 {Q F : Nat} {U L : Nat → Prop} (h : Stk Q F U L) {R k : Nat} (g : L (R * 2 ^ k)) : R * 2 ^ (k + 1) ≤ Q := by
  rw [Nat.pow_succ, ← Nat.mul_assoc, Nat.mul_comm _ 2]
  exact Nat.le_trans (Nat.mul_le_mul_left 2 (h.d _ g)) h.q1
theorem Stk.up2 {Q F : Nat} {U L : Nat → Prop} (h : Stk Q F U L) {r k : Nat} (hg : F * 2 ^ k ≤ rval F32 r) (g : ∀ c, rval F32 r = c * 2 ^ k → U c) : Q * 2 ^ k ≤ 2 * rval F32 r := by
  obtain ⟨c, hc⟩ := rep_grid r k (by
    refine Nat.le_trans ?_ hg
    rw [Nat.add_comm, Nat.pow_add]
    exact Nat.mul_le_mul_right _ (Nat.le_trans (by decide) h.lo))
  rw [hc, ← Nat.mul_assoc]
  exact Nat.mul_le_mul_right _ (h.u c (g c hc)).2
theorem Stk.dn2 {Q F : Nat} {U L : Nat → Prop} (h : Stk Q F U L) {r k : Nat} (g : ∀ c, rval F32 r = c * 2 ^ k → L c) : 2 * rval F32 r ≤ Q * 2 ^ k := by
  refine Nat.le_trans ?_ (Nat.mul_le_mul_right _ h.q1)
  rw [Nat.mul_assoc]
  refine Nat.mul_le_mul_left 2 ?_
  by_cases hg : 2 ^ (k + 23) ≤ rval F32 r
  · obtain ⟨c, hc⟩ := rep_grid r k hg
    rw [hc]
    exact Nat.mul_le_mul_right _ (h.d c (g c hc))
  · refine Nat.le_trans (Nat.le_of_lt (Nat.lt_of_not_le hg)) ?_
    rw [Nat.add_comm, Nat.pow_add]
    exact Nat.mul_le_mul_right _ (Nat.le_trans (by decide) h.lo)

theorem Stk.up {Q F : Nat} {U L : Nat → Prop} (h : Stk Q F U L) {e : Int} {r t : Nat} (ht : 0 ≤ (t : Int) + e + 148)
    (c1 : ∀ k : Nat, e + 149 = -(k : Int) → U (rval F32 r * 2 ^ k)) (c2 : ∀ k : Nat, e + 149 = (k : Int) → F * 2 ^ k ≤ rval F32 r ∧ ∀ c, rval F32 r = c * 2 ^ k → U c) :
    Q * 2 ^ ((t : Int) + e + 148).toNat ≤ rval F32 r * 2 ^ t := by
  by_cases he : e + 149 ≤ 0
  · obtain ⟨k, hk⟩ : ∃ k : Nat, e + 149 = -(k : Int) := ⟨(-(e + 149)).toNat, by omega⟩
    have h1 := Nat.mul_le_mul_right (2 ^ (t - k - 1)) (h.up1 (c1 k hk))
    rw [Nat.mul_assoc, ← Nat.pow_add, show k + 1 + (t - k - 1) = t by omega] at h1
    rw [show ((t : Int) + e + 148).toNat = t - k - 1 by omega]; exact h1
  · obtain ⟨k, hk⟩ : ∃ k : Nat, e + 149 = (k : Int) := ⟨(e + 149).toNat, by omega⟩
    have h1 := Nat.mul_le_mul_right (2 ^ t) (h.up2 (c2 k hk).1 (c2 k hk).2)
    rw [show ((t : Int) + e + 148).toNat = t + k - 1 by omega]
    refine Nat.le_of_mul_le_mul_left (c := 2) ?_ (by decide)
    rw [← Nat.mul_assoc 2 (rval F32 r)]
    refine Nat.le_trans (Nat.le_of_eq ?_) h1
    rw [Nat.mul_assoc Q, ← Nat.pow_add, Nat.mul_left_comm, ← Nat.pow_succ', show (t + k - 1).succ = k + t by omega]
theorem Stk.dn {Q F : Nat} {U L : Nat → Prop} (h : Stk Q F U L) {e : Int} {r t : Nat} (ht : 0 ≤ (t : Int) + e + 148)
    (c1 : ∀ k : Nat, e + 149 = -(k : Int) → L (rval F32 r * 2 ^ k)) (c2 : ∀ k : Nat, e + 149 = (k : Int) → ∀ c, rval F32 r = c * 2 ^ k → L c) :
    rval F32 r * 2 ^ t ≤ Q * 2 ^ ((t : Int) + e + 148).toNat := by
  by_cases he : e + 149 ≤ 0
  · obtain ⟨k, hk⟩ : ∃ k : Nat, e + 149 = -(k : Int) := ⟨(-(e + 149)).toNat, by omega⟩
    have h1 := Nat.mul_le_mul_right (2 ^ (t - k - 1)) (h.dn1 (c1 k hk))
    rw [Nat.mul_assoc, ← Nat.pow_add, show k + 1 + (t - k - 1) = t by omega] at h1
    rw [show ((t : Int) + e + 148).toNat = t - k - 1 by omega]; exact h1
  · obtain ⟨k, hk⟩ : ∃ k : Nat, e + 149 = (k : Int) := ⟨(e + 149).toNat, by omega⟩
    have h1 := Nat.mul_le_mul_right (2 ^ t) (h.dn2 (c2 k hk))
    rw [show ((t : Int) + e + 148).toNat = t + k - 1 by omega]
    refine Nat.le_of_mul_le_mul_left (c := 2) ?_ (by decide)
    rw [← Nat.mul_assoc 2 (rval F32 r)]
    refine Nat.le_trans h1 (Nat.le_of_eq ?_)
    rw [Nat.mul_assoc Q, ← Nat.pow_add, Nat.mul_left_comm 2 Q, ← Nat.pow_succ', show (t + k - 1).succ = k + t by omega]

/-! ### quotients -/
/-- a quotient as it is written -/
theorem div_mg {a b : Nat} (ha : Fi a) (hb : Fi b) (h0 : 0 < sv b) : ∃ s Q p A, fdiv .f32 a b = F32.nearest s Q p ∧ Mg Q p A (sv b).toNat ∧ sv a * 2 ^ 149 = (if s then -(A : Int) else A) ∧ 0 < (sv b).toNat ∧ (a < 2147483648 → s = false) := by
  obtain ⟨s, m, i, e1, i1, v1⟩ := read_sv ha
  have hsg : s = (a / 2147483648 % 2 == 1) := by
    obtain ⟨m', i', e', _⟩ := read_le (a := a) (r := a % 2147483648) (Nat.le_refl _) ha
    rw [e1] at e'
    cases e'; rfl
  obtain ⟨t, n, j, e2, i2, v2⟩ := read_sv hb
  have ht : t = false := by
    cases t with
    | false => rfl
    | true => rw [if_pos rfl] at v2; omega
  subst ht
  rw [if_neg (by decide)] at v2
  have hn : 0 < n := Nat.pos_of_ne_zero fun e => by rw [e, Nat.zero_mul] at v2; omega
  have hDn : (sv b).toNat = n * 2 ^ (j + 149).toNat := by rw [v2]; exact Int.toNat_natCast _
  have hfr : F32.fractionBits = 23 := rfl
  have hD : 0 < n * 2 ^ (j + 149).toNat := Nat.mul_pos hn (Nat.two_pow_pos _)
  have ev : sv a * 2 ^ 149 = if s then -(((m * 2 ^ (i + 149).toNat * 2 ^ 149 : Nat)) : Int) else (((m * 2 ^ (i + 149).toNat * 2 ^ 149 : Nat)) : Int) := by
    rw [v1, Int.natCast_mul (m * 2 ^ (i + 149).toNat), Int.natCast_pow]
    cases s <;> simp [Int.neg_mul]
  unfold fdiv Format.div
  rw [e1, e2]
  simp only [Datum.quotient, if_neg (show ¬ n = 0 by omega), Option.map_some, Option.getD_some, Nat.shiftLeft_eq]
  unfold Format.write
  simp only
  rw [Bool.xor_false, ev, hDn]
  have hs : a < 2147483648 → s = false := fun h => by rw [hsg, sgn_pos h]
  by_cases hm : m = 0
  · subst hm
    refine ⟨s, _, _, _, rfl, ⟨fun r _ _ => ?_, fun r _ g => ?_⟩, rfl, hD, hs⟩
    · simp
    · rw [Nat.zero_mul, Nat.zero_mul] at g
      have : rval F32 r = 0 := (Nat.mul_eq_zero.1 (Nat.le_zero.1 g)).resolve_right (by omega)
      rw [this, Nat.zero_mul]; exact Nat.zero_le _
  · have hlm : 2 ^ m.log2 ≤ m := Nat.log2_self_le hm
    have hln : n < 2 ^ (n.log2 + 1) := Nat.lt_log2_self
    have hF : 2 ^ 24 ≤ m * 2 ^ (F32.fractionBits + 2 + n.log2 - m.log2) / n := by
      rw [Nat.le_div_iff_mul_le hn, hfr]
      refine Nat.le_trans (Nat.mul_le_mul_left _ (Nat.le_of_lt hln)) ?_
      refine Nat.le_trans ?_ (Nat.mul_le_mul_right _ hlm)
      rw [← Nat.pow_add, ← Nat.pow_add]
      exact Nat.pow_le_pow_right (by decide) (by omega)
    have st := stk_quot hn hF
    generalize hmo : F32.fractionBits + 2 + n.log2 - m.log2 = more at *
    have hlo : m * 2 ^ more / n * n ≤ m * 2 ^ more := Nat.div_mul_le_self _ _
    generalize m * 2 ^ more / n = F at hlo st hF
    generalize 2 * F + (m * 2 ^ more % n != 0).toNat = Q at st
    have t1 : ∀ k : Nat, (i - j - more) + 149 = -(k : Int) → m * 2 ^ (i + 149).toNat * 2 ^ 149 * 2 ^ k = m * 2 ^ more * 2 ^ (j + 149).toNat := fun k hk => by
      rw [Nat.mul_assoc, Nat.mul_assoc, Nat.mul_assoc m, ← Nat.pow_add, ← Nat.pow_add, ← Nat.pow_add]
      congr 2; omega
    have t2 : ∀ k : Nat, (i - j - more) + 149 = (k : Int) → m * 2 ^ (i + 149).toNat * 2 ^ 149 = m * 2 ^ more * 2 ^ k * 2 ^ (j + 149).toNat := fun k hk => by
      rw [Nat.mul_assoc, Nat.mul_assoc m, Nat.mul_assoc m, ← Nat.pow_add, ← Nat.pow_add, ← Nat.pow_add]
      congr 2; omega
    generalize m * 2 ^ (i + 149).toNat * 2 ^ 149 = A at *
    have mg : Mg Q (i - j - more - 1) A (n * 2 ^ (j + 149).toNat) := by
      refine ⟨fun r _ g => ?_, fun r _ g => ?_⟩
      · have := st.up (e := i - j - more) (r := r) (t := (-149 - (i - j - more - 1)).toNat) (by omega) (fun k hk => ?_) (fun k hk => ?_)
        · rw [show ((((-149 - (i - j - more - 1)).toNat : Nat) : Int) + (i - j - more) + 148).toNat = (i - j - more - 1 + 149).toNat by omega] at this
          exact this
        · show m * 2 ^ more ≤ rval F32 r * 2 ^ k * n
          refine Nat.le_of_mul_le_mul_right (c := 2 ^ (j + 149).toNat) ?_ (Nat.two_pow_pos _)
          rw [← t1 k hk, Nat.mul_assoc (rval F32 r), Nat.mul_comm (2 ^ k) n, ← Nat.mul_assoc, Nat.mul_right_comm _ (2 ^ k), Nat.mul_assoc (rval F32 r)]
          exact Nat.mul_le_mul_right _ g
        · have h3 : m * 2 ^ more * 2 ^ k ≤ rval F32 r * n := by
            refine Nat.le_of_mul_le_mul_right (c := 2 ^ (j + 149).toNat) ?_ (Nat.two_pow_pos _)
            rw [← t2 k hk, Nat.mul_assoc (rval F32 r)]; exact g
          refine ⟨?_, fun c hc => ?_⟩
          · refine Nat.le_of_mul_le_mul_right (c := n) ?_ hn
            refine Nat.le_trans ?_ h3
            rw [Nat.mul_right_comm]
            exact Nat.mul_le_mul_right _ hlo
          · show m * 2 ^ more ≤ c * n
            rw [hc, Nat.mul_right_comm c] at h3
            exact Nat.le_of_mul_le_mul_right h3 (Nat.two_pow_pos _)
      · have := st.dn (e := i - j - more) (r := r) (t := (-149 - (i - j - more - 1)).toNat) (by omega) (fun k hk => ?_) (fun k hk => ?_)
        · rw [show ((((-149 - (i - j - more - 1)).toNat : Nat) : Int) + (i - j - more) + 148).toNat = (i - j - more - 1 + 149).toNat by omega] at this
          exact this
        · show rval F32 r * 2 ^ k * n ≤ m * 2 ^ more
          refine Nat.le_of_mul_le_mul_right (c := 2 ^ (j + 149).toNat) ?_ (Nat.two_pow_pos _)
          rw [← t1 k hk, Nat.mul_assoc (rval F32 r), Nat.mul_comm (2 ^ k) n, ← Nat.mul_assoc, Nat.mul_right_comm _ (2 ^ k), Nat.mul_assoc (rval F32 r)]
          exact Nat.mul_le_mul_right _ g
        · have h3 : rval F32 r * n ≤ m * 2 ^ more * 2 ^ k := by
            refine Nat.le_of_mul_le_mul_right (c := 2 ^ (j + 149).toNat) ?_ (Nat.two_pow_pos _)
            rw [← t2 k hk, Nat.mul_assoc (rval F32 r)]; exact g
          intro c hc
          show c * n ≤ m * 2 ^ more
          rw [hc, Nat.mul_right_comm c] at h3
          exact Nat.le_of_mul_le_mul_right h3 (Nat.two_pow_pos _)
    exact ⟨s, _, _, A, rfl, mg, rfl, hD, hs⟩
theorem div_fr {a b : Nat} (ha : Fi a) (hb : Fi b) (h0 : 0 < sv b) (h1 : sv a * 2 ^ 149 ≤ FM * sv b) (h2 : -(FM * sv b) ≤ sv a * 2 ^ 149) : Fr (fdiv .f32 a b) (sv a * 2 ^ 149) (sv b).toNat := by
  obtain ⟨s, Q, p, A, e, mg, ev, hD, _⟩ := div_mg ha hb h0
  rw [e, ev]
  refine mg.fr s hD ?_
  have c : ((rval F32 2139095039 * (sv b).toNat : Nat) : Int) = FM * sv b := by
    rw [Int.natCast_mul, Int.toNat_of_nonneg (by omega)]
  rw [← c] at h1 h2
  rw [ev] at h1 h2
  clear c ev mg e
  generalize rval F32 2139095039 * (sv b).toNat = B at *
  cases s <;> simp at h1 h2 <;> omega
/-- a quotient of what is not below nought may be too great for a number -/
theorem div_ge {a b r : Nat} (ha : a < 2139095040) (hb : Fi b) (h0 : 0 < sv b) (hr : r < 2139095040) (h : ((rval F32 r : Nat) : Int) * sv b ≤ sv a * 2 ^ 149) : r ≤ fdiv .f32 a b ∧ fdiv .f32 a b ≤ 2139095040 := by
  obtain ⟨s, Q, p, A, e, mg, ev, hD, hs⟩ := div_mg (a := a) (by unfold Fi; omega) hb h0
  rw [hs (by omega)] at e ev
  rw [if_neg (by decide)] at ev
  obtain ⟨q, hq, eq⟩ := nearest_ge F32 false Q p r (by rw [F_inf]; omega) (by
    rw [F_lp, show p - -149 = p + 149 by omega]
    refine mg.dn r hr ?_
    have c : ((rval F32 r * (sv b).toNat : Nat) : Int) = (rval F32 r : Int) * sv b := by
      rw [Int.natCast_mul, Int.toNat_of_nonneg (by omega)]
    rw [← c, ev] at h
    exact Int.ofNat_le.1 h)
  have := near_le Q p
  rw [e]
  refine ⟨?_, this⟩
  rw [eq]; exact hq
end Go.Ab
