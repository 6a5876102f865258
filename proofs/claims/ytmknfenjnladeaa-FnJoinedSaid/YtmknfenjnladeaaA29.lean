/- Float32: what is calculated lies where the exact answer lies. -/
import Derived.Test.YtmknfenjnladeaaA28
namespace Go.Ab
open Ieee

/-- what a word stands for, in units of 2^-149 -/
def sv (a : Nat) : Int := if a / 2147483648 % 2 == 1 then -(rval F32 (a % 2147483648) : Int) else (rval F32 (a % 2147483648) : Int)

theorem rv_le {r s : Nat} (h : r ≤ s) : rval F32 r ≤ rval F32 s := by
  rcases Nat.lt_or_eq_of_le h with h | h
  · exact Nat.le_of_lt (rval_lt _ h)
  · rw [h]; exact Nat.le_refl _
theorem rv_le_iff {r s : Nat} : rval F32 r ≤ rval F32 s ↔ r ≤ s := by
  refine ⟨fun h => Nat.le_of_not_lt fun g => ?_, rv_le⟩
  have := rval_lt F32 g; omega
theorem word_div (s : Bool) (q : Nat) (h : q ≤ 2139095040) : (F32.word s q / 2147483648 % 2 == 1) = s := by
  have := (word_rung F32 s q (by rw [F_sw]; omega)).2
  rw [F_sw] at this
  rw [this]; cases s <;> rfl
theorem sv_word (s : Bool) (q : Nat) (h : q ≤ 2139095040) : sv (F32.word s q) = if s then -((rval F32 q : Nat) : Int) else ((rval F32 q : Nat) : Int) := by
  unfold sv
  rw [word_div s q h, word_mg s q h]
theorem word_lt (s : Bool) (q : Nat) (h : q ≤ 2139095040) : F32.word s q < 4294967296 := by
  unfold Format.word
  rw [F_sw]
  cases s
  · simp; omega
  · simp; omega
theorem sv_pos {a : Nat} (h : a < 2147483648) : sv a = ((rval F32 a : Nat) : Int) := by
  unfold sv
  rw [sgn_pos h, Nat.mod_eq_of_lt h, if_neg (by decide)]
theorem sv_neg {a : Nat} (h : 2147483648 ≤ a) (h2 : a < 4294967296) : sv a = -((rval F32 (a - 2147483648) : Nat) : Int) := by
  unfold sv
  rw [show a / 2147483648 = 1 by omega, show a % 2147483648 = a - 2147483648 by omega, if_pos (by decide)]
theorem sv_abs (a : Nat) : (sv a).natAbs = rval F32 (a % 2147483648) := by
  unfold sv
  split
  · rw [Int.natAbs_neg, Int.natAbs_natCast]
  · rw [Int.natAbs_natCast]

/-! ### comparisons -/
theorem key_sv {a b : Nat} (ha : a < 4294967296) (hb : b < 4294967296) : ((if 2147483648 ≤ a then 2147483648 - (a : Int) else a) < (if 2147483648 ≤ b then 2147483648 - (b : Int) else b)) ↔ sv a < sv b := by
  have z := rval_zero F32
  by_cases h1 : 2147483648 ≤ a
  · rw [if_pos h1, sv_neg h1 ha]
    have p1 := rval_lt_iff F32 0 (a - 2147483648)
    rw [z] at p1
    by_cases h2 : 2147483648 ≤ b
    · rw [if_pos h2, sv_neg h2 hb]
      have := rval_lt_iff F32 (b - 2147483648) (a - 2147483648)
      omega
    · rw [if_neg h2, sv_pos (by omega)]
      have p2 := rval_lt_iff F32 0 b
      rw [z] at p2
      omega
  · rw [if_neg h1, sv_pos (by omega)]
    have p1 := rval_lt_iff F32 0 a
    rw [z] at p1
    by_cases h2 : 2147483648 ≤ b
    · rw [if_pos h2, sv_neg h2 hb]
      have p2 := rval_lt_iff F32 0 (b - 2147483648)
      rw [z] at p2
      omega
    · rw [if_neg h2, sv_pos (by omega)]
      have := rval_lt_iff F32 a b
      omega
theorem flt_sv {a b : Nat} (ha : Nn a) (hb : Nn b) (a2 : a < 4294967296) (b2 : b < 4294967296) : flt .f32 a b = decide (sv a < sv b) := by
  rw [flt_of ha hb a2 b2]
  exact decide_eq_decide.2 (key_sv a2 b2)
theorem fgt_sv {a b : Nat} (ha : Nn a) (hb : Nn b) (a2 : a < 4294967296) (b2 : b < 4294967296) : fgt .f32 a b = decide (sv b < sv a) := by
  rw [fgt_flt, flt_sv hb ha b2 a2]
theorem feq_sv {a b : Nat} (ha : Nn a) (hb : Nn b) (a2 : a < 4294967296) (b2 : b < 4294967296) : feq .f32 a b = decide (sv a = sv b) := by
  rw [feq_of ha hb a2 b2]
  have h1 := key_sv a2 b2
  have h2 := key_sv b2 a2
  refine decide_eq_decide.2 ?_
  omega
theorem fle_sv {a b : Nat} (ha : Nn a) (hb : Nn b) (a2 : a < 4294967296) (b2 : b < 4294967296) : (flt .f32 a b || feq .f32 a b) = decide (sv a ≤ sv b) := by
  rw [flt_sv ha hb a2 b2, feq_sv ha hb a2 b2]
  by_cases h : sv a < sv b
  · rw [decide_eq_true h, decide_eq_true (show sv a ≤ sv b by omega)]; rfl
  · rw [decide_eq_false h, Bool.false_or]; exact decide_eq_decide.2 (by omega)
theorem fge_sv {a b : Nat} (ha : Nn a) (hb : Nn b) (a2 : a < 4294967296) (b2 : b < 4294967296) : (fgt .f32 a b || feq .f32 a b) = decide (sv b ≤ sv a) := by
  rw [fgt_sv ha hb a2 b2, feq_sv ha hb a2 b2]
  by_cases h : sv b < sv a
  · rw [decide_eq_true h, decide_eq_true (show sv b ≤ sv a by omega)]; rfl
  · rw [decide_eq_false h, Bool.false_or]; exact decide_eq_decide.2 (by omega)

/-! ### the sign turned -/
theorem xor_top {a : Nat} (h : a < 2147483648) : a ^^^ 2147483648 = 2147483648 + a := by
  refine Nat.eq_of_testBit_eq fun j => ?_
  rw [Nat.testBit_xor, show (2147483648 : Nat) = 2 ^ 31 from rfl, Nat.testBit_two_pow]
  rcases Nat.lt_trichotomy j 31 with hj | hj | hj
  · rw [Nat.testBit_two_pow_add_gt hj, decide_eq_false (by omega)]; simp
  · subst hj
    rw [Nat.testBit_two_pow_add_eq]; simp
  · rw [decide_eq_false (by omega), Nat.testBit_lt_two_pow (x := a) (by exact Nat.lt_of_lt_of_le h (Nat.pow_le_pow_right (n := 2) (by decide) (show 31 ≤ j by omega))), Nat.testBit_lt_two_pow (x := 2 ^ 31 + a)]
    · rfl
    · have : 2 ^ 32 ≤ 2 ^ j := Nat.pow_le_pow_right (by decide) (by omega)
      omega
theorem neg_pos {a : Nat} (h : a < 2147483648) : fneg .f32 a = 2147483648 + a := xor_top h
theorem neg_neg {a : Nat} (h : a < 2147483648) : fneg .f32 (2147483648 + a) = a := by
  show (2147483648 + a) ^^^ 2147483648 = a
  rw [← xor_top h, Nat.xor_assoc, Nat.xor_self, Nat.xor_zero]
theorem neg_mod {a : Nat} (h : a < 4294967296) : fneg .f32 a % 2147483648 = a % 2147483648 := by
  by_cases h1 : a < 2147483648
  · rw [neg_pos h1]; omega
  · obtain ⟨b, rfl⟩ : ∃ b, a = 2147483648 + b := ⟨a - 2147483648, by omega⟩
    rw [neg_neg (by omega)]; omega
theorem sv_fneg {a : Nat} (h : a < 4294967296) : sv (fneg .f32 a) = -sv a := by
  by_cases h1 : a < 2147483648
  · rw [neg_pos h1, sv_pos h1, sv_neg (by omega) (by omega), Nat.add_sub_cancel_left]
  · obtain ⟨b, rfl⟩ : ∃ b, a = 2147483648 + b := ⟨a - 2147483648, by omega⟩
    rw [neg_neg (by omega), sv_pos (by omega), sv_neg (by omega) (by omega), Nat.add_sub_cancel_left, Int.neg_neg]
theorem Fi.neg {a : Nat} (h : Fi a) (h2 : a < 4294967296) : Fi (fneg .f32 a) := by
  unfold Fi; rw [neg_mod h2]; exact h

/-! ### rounding -/
/-- a number that lies among all numbers as 'n / d' does, in units of 2^-149 -/
structure Fr (a : Nat) (n : Int) (d : Nat) : Prop where
  fi : Fi a
  lt : a < 4294967296
  le : ∀ r, r < 2139095040 → n ≤ ((rval F32 r : Nat) : Int) * d → sv a ≤ ((rval F32 r : Nat) : Int)
  ge : ∀ r, r < 2139095040 → ((rval F32 r : Nat) : Int) * d ≤ n → ((rval F32 r : Nat) : Int) ≤ sv a
  le' : ∀ r, r < 2139095040 → n ≤ -(((rval F32 r : Nat) : Int) * d) → sv a ≤ -((rval F32 r : Nat) : Int)
  ge' : ∀ r, r < 2139095040 → -(((rval F32 r : Nat) : Int) * d) ≤ n → -((rval F32 r : Nat) : Int) ≤ sv a
/-- rung 'q' lies among all rungs as 'A / D' does -/
def Rg (q A D : Nat) : Prop := ∀ r, r < 2139095040 → (A ≤ rval F32 r * D → q ≤ r) ∧ (rval F32 r * D ≤ A → r ≤ q)

theorem fr_word (s : Bool) {q A D : Nat} (hD : 0 < D) (hq : q < 2139095040) (h : Rg q A D) : Fr (F32.word s q) (if s then -(A : Int) else A) D := by
  have e := sv_word s q (by omega)
  have key : ∀ r, r < 2139095040 → ((A : Int) ≤ ((rval F32 r : Nat) : Int) * D → q ≤ r) ∧ (((rval F32 r : Nat) : Int) * D ≤ (A : Int) → r ≤ q) := fun r hr => by
    have := h r hr
    have c : ((rval F32 r : Nat) : Int) * (D : Int) = ((rval F32 r * D : Nat) : Int) := by rw [Int.natCast_mul]
    rw [c]
    exact ⟨fun g => this.1 (by omega), fun g => this.2 (by omega)⟩
  have pos : ∀ r, (0 : Int) ≤ ((rval F32 r : Nat) : Int) * D := fun r => by rw [← Int.natCast_mul]; exact Int.natCast_nonneg _
  have z0 : ∀ r, ((rval F32 r : Nat) : Int) * D ≤ 0 → ((rval F32 r : Nat) : Int) = 0 := fun r g => by
    have g2 : ((rval F32 r : Nat) : Int) * (D : Int) = 0 := Int.le_antisymm g (pos r)
    rcases Int.mul_eq_zero.1 g2 with g3 | g3
    · exact g3
    · omega
  have q0 : A = 0 → q = 0 := fun g => by
    have := (h 0 (by decide)).1 (by rw [g]; exact Nat.zero_le _)
    omega
  have z : rval F32 0 = 0 := rval_zero F32
  refine ⟨?_, word_lt s q (by omega), ?_, ?_, ?_, ?_⟩
  · unfold Fi; rw [word_mg s q (by omega)]; exact hq
  all_goals intro r hr g; rw [e]; have k := key r hr; have p := pos r; cases s
  · have := rv_le (k.1 g); show ((rval F32 q : Nat) : Int) ≤ ((rval F32 r : Nat) : Int); omega
  · show -((rval F32 q : Nat) : Int) ≤ ((rval F32 r : Nat) : Int); omega
  · have := rv_le (k.2 g); show ((rval F32 r : Nat) : Int) ≤ ((rval F32 q : Nat) : Int); omega
  · have g1 : ((rval F32 r : Nat) : Int) * (D : Int) ≤ -(A : Int) := g
    have g2 := z0 r (by omega)
    have g3 : A = 0 := by omega
    show ((rval F32 r : Nat) : Int) ≤ -((rval F32 q : Nat) : Int)
    rw [q0 g3, g2, show ((rval F32 0 : Nat) : Int) = 0 from congrArg Int.ofNat z]; decide
  · have g1 : (A : Int) ≤ -(((rval F32 r : Nat) : Int) * (D : Int)) := g
    have g2 := z0 r (by omega)
    have g3 : A = 0 := by omega
    show ((rval F32 q : Nat) : Int) ≤ -((rval F32 r : Nat) : Int)
    rw [q0 g3, g2, show ((rval F32 0 : Nat) : Int) = 0 from congrArg Int.ofNat z]; decide
  · have g1 : -(A : Int) ≤ -(((rval F32 r : Nat) : Int) * (D : Int)) := g
    have := rv_le (k.2 (by omega)); show -((rval F32 q : Nat) : Int) ≤ -((rval F32 r : Nat) : Int); omega
  · show -((rval F32 r : Nat) : Int) ≤ ((rval F32 q : Nat) : Int); omega
  · have g1 : -(((rval F32 r : Nat) : Int) * (D : Int)) ≤ -(A : Int) := g
    have := rv_le (k.1 (by omega)); show -((rval F32 r : Nat) : Int) ≤ -((rval F32 q : Nat) : Int); omega

/-- a number as it stands lies among all numbers as 'A / D' does -/
structure Mg (m : Nat) (p : Int) (A D : Nat) : Prop where
  up : ∀ r, r < 2139095040 → A ≤ rval F32 r * D → m * 2 ^ (p + 149).toNat ≤ rval F32 r * 2 ^ (-149 - p).toNat
  dn : ∀ r, r < 2139095040 → rval F32 r * D ≤ A → rval F32 r * 2 ^ (-149 - p).toNat ≤ m * 2 ^ (p + 149).toNat
theorem Mg.near {m : Nat} {p : Int} {A D : Nat} (h : Mg m p A D) (s : Bool) (hA : A ≤ rval F32 2139095039 * D) : ∃ q, q < 2139095040 ∧ F32.nearest s m p = F32.word s q ∧ Rg q A D := by
  have e1 : p - F32.leastPlace = p + 149 := by rw [F_lp]; omega
  obtain ⟨q, hq, e⟩ := nearest_le F32 s m p 2139095039 (by rw [F_inf]; decide) (by rw [e1, F_lp]; exact h.up _ (by decide) hA)
  have inj : ∀ q', q' ≤ 2139095040 → F32.word s q = F32.word s q' → q = q' := fun q' h' g => by
    have := congrArg (· % 2147483648) g
    simpa only [word_mg s q (by omega), word_mg s q' h'] using this
  refine ⟨q, by omega, e, fun r hr => ⟨fun g => ?_, fun g => ?_⟩⟩
  · obtain ⟨q', hq', e'⟩ := nearest_le F32 s m p r (by rw [F_inf]; omega) (by rw [e1, F_lp]; exact h.up r hr g)
    rw [inj q' (by omega) (e.symm.trans e')]; exact hq'
  · obtain ⟨q', hq', e'⟩ := nearest_ge F32 s m p r (by rw [F_inf]; omega) (by rw [e1, F_lp]; exact h.dn r hr g)
    by_cases hb : q' ≤ 2139095040
    · rw [inj q' hb (e.symm.trans e')]; exact hq'
    · have h1 := congrArg (fun x => x % 2147483648) (e.symm.trans e')
      simp only [word_mg s q (by omega)] at h1
      exfalso
      have h2 : ∀ x, F32.nearest s m p = F32.word s x → x ≤ 2139095040 ∨ 2139095040 < x := fun x _ => by omega
      have h3 : F32.nearest s m p % 2147483648 = q := by rw [e, word_mg s q (by omega)]
      have h4 : F32.nearest s m p = F32.word s q' := e'
      have h5 : F32.nearest s m p = F32.word s q := e
      have h6 : F32.word s q = F32.word s q' := h5.symm.trans h4
      unfold Format.word at h6
      cases s
      · simp at h6; omega
      · simp at h6; omega
theorem Mg.fr {m : Nat} {p : Int} {A D : Nat} (h : Mg m p A D) (s : Bool) (hD : 0 < D) (hA : A ≤ rval F32 2139095039 * D) : Fr (F32.nearest s m p) (if s then -(A : Int) else A) D := by
  obtain ⟨q, hq, e, hr⟩ := h.near s hA
  rw [e]; exact fr_word s hD hq hr

theorem read_sv {a : Nat} (h : Fi a) : ∃ s m i, F32.read a = .number s m i ∧ -149 ≤ i ∧ sv a = (if s then -((m * 2 ^ (i + 149).toNat : Nat) : Int) else ((m * 2 ^ (i + 149).toNat : Nat) : Int)) := by
  obtain ⟨m, i, e, hi, v, _⟩ := read_le (a := a) (r := a % 2147483648) (Nat.le_refl _) h
  refine ⟨_, m, i, e, hi, ?_⟩
  unfold sv
  rw [v]
/-- the greatest number -/
abbrev FM : Int := ((rval F32 2139095039 : Nat) : Int)

theorem sum_fr {a b : Nat} {x y : Datum} {s t : Bool} {m n : Nat} {i j : Int} (hi : -149 ≤ i) (hj : -149 ≤ j) {u v : Int}
    (hu : u = (if s then -((m * 2 ^ (i + 149).toNat : Nat) : Int) else ((m * 2 ^ (i + 149).toNat : Nat) : Int))) (hv : v = (if t then -((n * 2 ^ (j + 149).toNat : Nat) : Int) else ((n * 2 ^ (j + 149).toNat : Nat) : Int)))
    (h1 : u + v ≤ FM) (h2 : -FM ≤ u + v) : ∃ w, (Datum.sum (.number s m i) (.number t n j)).map F32.write = some w ∧ Fr w (u + v) 1 := by
  refine ⟨_, rfl, ?_⟩
  have su : u = signed s m (i - min i j).toNat * 2 ^ (min i j + 149).toNat := by
    rw [hu, signed_mul, Int.mul_assoc, Int.mul_assoc, ← Int.pow_add, show (i - min i j).toNat + (min i j + 149).toNat = (i + 149).toNat by omega]
    rw [Int.natCast_mul, Int.natCast_pow]
    cases s <;> simp
  have sv' : v = signed t n (j - min i j).toNat * 2 ^ (min i j + 149).toNat := by
    rw [hv, signed_mul, Int.mul_assoc, Int.mul_assoc, ← Int.pow_add, show (j - min i j).toNat + (min i j + 149).toNat = (j + 149).toNat by omega]
    rw [Int.natCast_mul, Int.natCast_pow]
    cases t <;> simp
  have suv : u + v = (signed s m (i - min i j).toNat + signed t n (j - min i j).toNat) * 2 ^ (min i j + 149).toNat := by rw [su, sv', Int.add_mul]
  generalize hT : signed s m (i - min i j).toNat + signed t n (j - min i j).toNat = T at suv
  have hp : (0 : Int) < 2 ^ (min i j + 149).toNat := Int.pow_pos (by decide)
  show Fr (F32.nearest (if T = 0 then s && t else decide (T < 0)) T.natAbs (min i j)) (u + v) 1
  have hA : (((T.natAbs * 2 ^ (min i j + 149).toNat : Nat) : Int)) = if decide (T < 0) then -(u + v) else u + v := by
    rw [Int.natCast_mul, Int.natCast_pow, suv]
    by_cases h : T < 0
    · rw [decide_eq_true h, if_pos rfl, ← Int.neg_mul]; congr 1; omega
    · rw [decide_eq_false h, if_neg (by decide)]; congr 1; omega
  have mg : Mg T.natAbs (min i j) (T.natAbs * 2 ^ (min i j + 149).toNat) 1 := by
    refine ⟨fun r _ g => ?_, fun r _ g => ?_⟩
    · rw [show (-149 - min i j).toNat = 0 by omega, Nat.pow_zero]; exact g
    · rw [show (-149 - min i j).toNat = 0 by omega, Nat.pow_zero]; exact g
  have fr := mg.fr (if T = 0 then s && t else decide (T < 0)) (by decide) (by
    have hF : FM = ((rval F32 2139095039 : Nat) : Int) := rfl
    have : ((T.natAbs * 2 ^ (min i j + 149).toNat : Nat) : Int) ≤ FM := by rw [hA]; split <;> omega
    rw [Nat.mul_one]; omega)
  by_cases h0 : T = 0
  · have e0 : u + v = 0 := by rw [suv, h0, Int.zero_mul]
    have ez : (((T.natAbs * 2 ^ (min i j + 149).toNat : Nat) : Int)) = 0 := by rw [h0]; simp
    rw [ez] at fr
    rw [e0]
    cases hs : (if T = 0 then s && t else decide (T < 0)) <;> rw [hs] at fr <;> simpa using fr
  · rw [if_neg h0] at fr ⊢
    by_cases h : T < 0
    · rw [decide_eq_true h, if_pos rfl] at fr hA
      rw [hA, Int.neg_neg] at fr
      rw [decide_eq_true h]; exact fr
    · rw [decide_eq_false h, if_neg (by decide)] at fr hA
      rw [hA] at fr
      rw [decide_eq_false h]; exact fr
theorem add_fr {a b : Nat} (ha : Fi a) (hb : Fi b) (h1 : sv a + sv b ≤ FM) (h2 : -FM ≤ sv a + sv b) : Fr (fadd .f32 a b) (sv a + sv b) 1 := by
  obtain ⟨s, m, i, e1, i1, v1⟩ := read_sv ha
  obtain ⟨t, n, j, e2, i2, v2⟩ := read_sv hb
  obtain ⟨w, hw, fr⟩ := sum_fr (a := a) (b := b) (x := .infinity s) (y := .infinity s) i1 i2 v1 v2 h1 h2
  unfold fadd Format.add
  rw [e1, e2, hw]; exact fr
theorem sub_fr {a b : Nat} (ha : Fi a) (hb : Fi b) (h1 : sv a - sv b ≤ FM) (h2 : -FM ≤ sv a - sv b) : Fr (fsub .f32 a b) (sv a - sv b) 1 := by
  obtain ⟨s, m, i, e1, i1, v1⟩ := read_sv ha
  obtain ⟨t, n, j, e2, i2, v2⟩ := read_sv hb
  have v3 : -sv b = (if !t then -((n * 2 ^ (j + 149).toNat : Nat) : Int) else ((n * 2 ^ (j + 149).toNat : Nat) : Int)) := by
    rw [v2]; cases t <;> simp
  obtain ⟨w, hw, fr⟩ := sum_fr (a := a) (b := b) (x := .infinity s) (y := .infinity s) i1 i2 v1 v3 (by omega) (by omega)
  unfold fsub Format.sub
  rw [e1, e2]
  show Fr (((Datum.sum (.number s m i) (.number (!t) n j)).map F32.write).getD _) _ _
  rw [hw, Int.sub_eq_add_neg]; exact fr
theorem mul_fr {a b : Nat} (ha : Fi a) (hb : Fi b) (h1 : sv a * sv b ≤ FM * 2 ^ 149) (h2 : -(FM * 2 ^ 149) ≤ sv a * sv b) : Fr (fmul .f32 a b) (sv a * sv b) (2 ^ 149) := by
  obtain ⟨s, m, i, e1, i1, v1⟩ := read_sv ha
  obtain ⟨t, n, j, e2, i2, v2⟩ := read_sv hb
  unfold fmul Format.mul
  rw [e1, e2]
  simp only [Datum.product, Option.map_some, Option.getD_some]
  unfold Format.write
  simp only
  have ev : sv a * sv b = if s ^^ t then -(((m * 2 ^ (i + 149).toNat * (n * 2 ^ (j + 149).toNat) : Nat)) : Int) else (((m * 2 ^ (i + 149).toNat * (n * 2 ^ (j + 149).toNat) : Nat)) : Int) := by
    rw [v1, v2, Int.natCast_mul (m * 2 ^ (i + 149).toNat)]
    cases s <;> cases t <;> simp [Int.neg_mul, Int.mul_neg]
  have hpow : 2 ^ (i + 149).toNat * 2 ^ (j + 149).toNat * 2 ^ (-149 - (i + j)).toNat = 2 ^ (i + j + 149).toNat * 2 ^ 149 := by
    rw [← Nat.pow_add, ← Nat.pow_add, ← Nat.pow_add]; congr 1; omega
  have hv : m * n * 2 ^ (i + j + 149).toNat * 2 ^ 149 = m * 2 ^ (i + 149).toNat * (n * 2 ^ (j + 149).toNat) * 2 ^ (-149 - (i + j)).toNat := by
    rw [Nat.mul_mul_mul_comm, Nat.mul_assoc, ← hpow, Nat.mul_assoc (m * n)]
  have mg : Mg (m * n) (i + j) (m * 2 ^ (i + 149).toNat * (n * 2 ^ (j + 149).toNat)) (2 ^ 149) := by
    generalize m * 2 ^ (i + 149).toNat * (n * 2 ^ (j + 149).toNat) = A at *
    refine ⟨fun r _ g => ?_, fun r _ g => ?_⟩
    · refine Nat.le_of_mul_le_mul_right (c := 2 ^ 149) ?_ (Nat.two_pow_pos _)
      rw [hv, Nat.mul_right_comm]
      exact Nat.mul_le_mul_right _ g
    · refine Nat.le_of_mul_le_mul_right (c := 2 ^ 149) ?_ (Nat.two_pow_pos _)
      rw [hv, Nat.mul_right_comm]
      exact Nat.mul_le_mul_right _ g
  have fr := mg.fr (s ^^ t) (Nat.two_pow_pos _) (by
    have e := ev
    have c : ((rval F32 2139095039 * 2 ^ 149 : Nat) : Int) = FM * 2 ^ 149 := by rw [Int.natCast_mul, Int.natCast_pow]; rfl
    rw [← c] at h1 h2
    clear mg hv c hpow
    generalize m * 2 ^ (i + 149).toNat * (n * 2 ^ (j + 149).toNat) = A at *
    generalize rval F32 2139095039 * 2 ^ 149 = B at *
    cases hst : s ^^ t <;> rw [hst] at e <;> simp at e <;> omega)
  rw [ev]; exact fr
end Go.Ab
