/- Float32: what is calculated lies where the exact answer lies. -/
import Derived.Test.YtmknfenjnladeaaA27
namespace Go.Ab
open Ieee

def sv (a : Nat) : Int := if a / 2147483648 % 2 == 1 then -(rval F32 (a % 2147483648) : Int) else (rval F32 (a % 2147483648) : Int)

theorem rv_le {r s : Nat} (h : r ≤ s) : rval F32 r ≤ rval F32 s := by
  rcases Nat.lt_or_eq_of_le h with h | h
  · exact Nat.le_of_lt (rval_lt _ h)
  · rw [h]; exact Nat.le_refl _
theorem rv_le_iff {r s : Nat} : rval F32 r ≤ rval F32 s ↔ r ≤ s := by
  refine ⟨fun h => Nat.le_of_not_lt fun g => ?_,rv_le⟩
  have := rval_lt F32 g; omega
theorem word_div (s : Bool) (q : Nat) (h : q ≤ 2139095040) : (F32.word s q / 2147483648 % 2 == 1) = s := by
  have := (word_rung F32 s q (by rw [F_sw]; omega)).2
  rw [F_sw] at this
  rw [this]; cases s <;> rfl
theorem sv_word (s : Bool) (q : Nat) (h : q ≤ 2139095040) : sv (F32.word s q) = if s then -((rval F32 q : Nat) : Int) else ((rval F32 q : Nat) : Int) := by
  unfold sv
  rw [word_div s q h,word_mg s q h]
theorem word_lt (s : Bool) (q : Nat) (h : q ≤ 2139095040) : F32.word s q < 4294967296 := by
  unfold Format.word
  rw [F_sw]
  cases s
  · simp; omega
  · simp; omega
theorem sv_pos {a : Nat} (h : a < 2147483648) : sv a = ((rval F32 a : Nat) : Int) := by
  unfold sv
  rw [sgn_pos h,Nat.mod_eq_of_lt h,if_neg (by decide)]
theorem sv_neg {a : Nat} (h : 2147483648 ≤ a) (h2 : a < 4294967296) : sv a = -((rval F32 (a - 2147483648) : Nat) : Int) := by
  unfold sv
  rw [show a / 2147483648 = 1 by omega,show a % 2147483648 = a - 2147483648 by omega,if_pos (by decide)]
theorem sv_abs (a : Nat) : (sv a).natAbs = rval F32 (a % 2147483648) := by
  unfold sv
  split
  · rw [Int.natAbs_neg,Int.natAbs_natCast]
  · rw [Int.natAbs_natCast]

theorem key_sv {a b : Nat} (ha : a < 4294967296) (hb : b < 4294967296) : ((if 2147483648 ≤ a then 2147483648 - (a : Int) else a) < (if 2147483648 ≤ b then 2147483648 - (b : Int) else b)) ↔ sv a < sv b := by
  have z := rval_zero F32
  by_cases h1 : 2147483648 ≤ a
  · rw [if_pos h1,sv_neg h1 ha]
    have p1 := rval_lt_iff F32 0 (a - 2147483648)
    rw [z] at p1
    by_cases h2 : 2147483648 ≤ b
    · rw [if_pos h2,sv_neg h2 hb]
      have := rval_lt_iff F32 (b - 2147483648) (a - 2147483648)
      omega
    · rw [if_neg h2,sv_pos (by omega)]
      have p2 := rval_lt_iff F32 0 b
      rw [z] at p2
      omega
  · rw [if_neg h1,sv_pos (by omega)]
    have p1 := rval_lt_iff F32 0 a
    rw [z] at p1
    by_cases h2 : 2147483648 ≤ b
    · rw [if_pos h2,sv_neg h2 hb]
      have p2 := rval_lt_iff F32 0 (b - 2147483648)
      rw [z] at p2
      omega
    · rw [if_neg h2,sv_pos (by omega)]
      have := rval_lt_iff F32 a b
      omega
theorem flt_sv {a b : Nat} (ha : Nn a) (hb : Nn b) (a2 : a < 4294967296) (b2 : b < 4294967296) : flt .f32 a b = decide (sv a < sv b) := by
  rw [flt_of ha hb a2 b2]
  exact decide_eq_decide.2 (key_sv a2 b2)
theorem fgt_sv {a b : Nat} (ha : Nn a) (hb : Nn b) (a2 : a < 4294967296) (b2 : b < 4294967296) : fgt .f32 a b = decide (sv b < sv a) := by
  rw [fgt_flt,flt_sv hb ha b2 a2]
theorem feq_sv {a b : Nat} (ha : Nn a) (hb : Nn b) (a2 : a < 4294967296) (b2 : b < 4294967296) : feq .f32 a b = decide (sv a = sv b) := by
  rw [feq_of ha hb a2 b2]
  have h1 := key_sv a2 b2
  have h2 := key_sv b2 a2
  refine decide_eq_decide.2 ?_
  omega
theorem fle_sv {a b : Nat} (ha : Nn a) (hb : Nn b) (a2 : a < 4294967296) (b2 : b < 4294967296) : (flt .f32 a b || feq .f32 a b) = decide (sv a ≤ sv b) := by
  rw [flt_sv ha hb a2 b2,feq_sv ha hb a2 b2]
  by_cases h : sv a < sv b
  · rw [decide_eq_true h,decide_eq_true (show sv a ≤ sv b by omega)]; rfl
  · rw [decide_eq_false h,Bool.false_or]; exact decide_eq_decide.2 (by omega)
theorem fge_sv {a b : Nat} (ha : Nn a) (hb : Nn b) (a2 : a < 4294967296) (b2 : b < 4294967296) : (fgt .f32 a b || feq .f32 a b) = decide (sv b ≤ sv a) := by
  rw [fgt_sv ha hb a2 b2,feq_sv ha hb a2 b2]
  by_cases h : sv b < sv a
  · rw [decide_eq_true h,decide_eq_true (show sv b ≤ sv a by omega)]; rfl
  · rw [decide_eq_false h,Bool.false_or]; exact decide_eq_decide.2 (by omega)

theorem xor_top {a : Nat} (h : a < 2147483648) : a ^^^ 2147483648 = 2147483648 + a := by
  refine Nat.eq_of_testBit_eq fun j => ?_
  rw [Nat.testBit_xor,show (2147483648 : Nat) = 2 ^ 31 from rfl,Nat.testBit_two_pow]
  rcases Nat.lt_trichotomy j 31 with hj | hj | hj
  · rw [Nat.testBit_two_pow_add_gt hj,decide_eq_false (by omega)]; simp
  · subst hj
    rw [Nat.testBit_two_pow_add_eq]; simp
  · rw [decide_eq_false (by omega),Nat.testBit_lt_two_pow (x := a) (by exact Nat.lt_of_lt_of_le h (Nat.pow_le_pow_right (n := 2) (by decide) (show 31 ≤ j by omega))),Nat.testBit_lt_two_pow (x := 2 ^ 31 + a)]
    · rfl
    · have : 2 ^ 32 ≤ 2 ^ j := Nat.pow_le_pow_right (by decide) (by omega)
      omega
theorem neg_pos {a : Nat} (h : a < 2147483648) : fneg .f32 a = 2147483648 + a := xor_top h
theorem neg_neg {a : Nat} (h : a < 2147483648) : fneg .f32 (2147483648 + a) = a := by
  show (2147483648 + a) ^^^ 2147483648 = a
  rw [← xor_top h,Nat.xor_assoc,Nat.xor_self,Nat.xor_zero]
theorem neg_mod {a : Nat} (h : a < 4294967296) : fneg .f32 a % 2147483648 = a % 2147483648 := by
  by_cases h1 : a < 2147483648
  · rw [neg_pos h1]; omega
  · obtain ⟨b,rfl⟩ : ∃ b,a = 2147483648 + b := ⟨a - 2147483648,by omega⟩
    rw [neg_neg (by omega)]; omega
theorem sv_fneg {a : Nat} (h : a < 4294967296) : sv (fneg .f32 a) = -sv a := by
  by_cases h1 : a < 2147483648
  · rw [neg_pos h1,sv_pos h1,sv_neg (by omega) (by omega),Nat.add_sub_cancel_left]
  · obtain ⟨b,rfl⟩ : ∃ b,a = 2147483648 + b := ⟨a - 2147483648,by omega⟩
    rw [neg_neg (by omega),sv_pos (by omega),sv_neg (by omega) (by omega),Nat.add_sub_cancel_left,Int.neg_neg]
theorem Fi.neg {a : Nat} (h : Fi a) (h2 : a < 4294967296) : Fi (fneg .f32 a) := by
  unfold Fi; rw [neg_mod h2]; exact h

structure Fr (a : Nat) (n : Int) (d : Nat) : Prop where
  fi : Fi a
  lt : a < 4294967296
  le : ∀ r,r < 2139095040 → n ≤ ((rval F32 r : Nat) : Int) * d → sv a ≤ ((rval F32 r : Nat) : Int)
  ge : ∀ r,r < 2139095040 → ((rval F32 r : Nat) : Int) * d ≤ n → ((rval F32 r : Nat) : Int) ≤ sv a
  le' : ∀ r,r < 2139095040 → n ≤ -(((rval F32 r : Nat) : Int) * d) → sv a ≤ -((rval F32 r : Nat) : Int)
  ge' : ∀ r,r < 2139095040 → -(((rval F32 r : Nat) : Int) * d) ≤ n → -((rval F32 r : Nat) : Int) ≤ sv a
def Rg (q A D : Nat) : Prop := ∀ r,r < 2139095040 → (A ≤ rval F32 r * D → q ≤ r) ∧ (rval F32 r * D ≤ A → r ≤ q)

theorem fr_word (s : Bool) {q A D : Nat} (hD : 0 < D) (hq : q < 2139095040) (h : Rg q A D) : Fr (F32.word s q) (if s then -(A : Int) else A) D := by
  have e := sv_word s q (by omega)
  have key : ∀ r,r < 2139095040 → ((A : Int) ≤ ((rval F32 r : Nat) : Int) * D → q ≤ r) ∧ (((rval F32 r : Nat) : Int) * D ≤ (A : Int) → r ≤ q) := fun r hr => by
    have := h r hr
    have c : ((rval F32 r : Nat) : Int) * (D : Int) = ((rval F32 r * D : Nat) : Int) := by rw [Int.natCast_mul]
    rw [c]
    exact ⟨fun g => this.1 (by omega),fun g => this.2 (by omega)⟩
  have pos : ∀ r,(0 : Int) ≤ ((rval F32 r : Nat) : Int) * D := fun r => by rw [← Int.natCast_mul]; exact Int.natCast_nonneg _
  have z0 : ∀ r,((rval F32 r : Nat) : Int) * D ≤ 0 → ((rval F32 r : Nat) : Int) = 0 := fun r g => by
    have g2 : ((rval F32 r : Nat) : Int) * (D : Int) = 0 := Int.le_antisymm g (pos r)
    rcases Int.mul_eq_zero.1 g2 with g3 | g3
    · exact g3
    · omega
  have q0 : A = 0 → q = 0 := fun g => by
    have := (h 0 (by decide)).1 (by rw [g]; exact Nat.zero_le _)
    omega
  have z : rval F32 0 = 0 := rval_zero F32
  refine ⟨?_,word_lt s q (by omega),?_,?_,?_,?_⟩
  · unfold Fi; rw [word_mg s q (by omega)]; exact hq
  all_goals intro r hr g; rw [e]; have k := key r hr; have p := pos r; cases s
  · have := rv_le (k.1 g); show ((rval F32 q : Nat) : Int) ≤ ((rval F32 r : Nat) : Int); omega
  · show -((rval F32 q : Nat) : Int) ≤ ((rval F32 r : Nat) : Int); omega
  · have := rv_le (k.2 g); show ((rval F32 r : Nat) : Int) ≤ ((rval F32 q : Nat) : Int); omega
  · have g1 : ((rval F32 r : Nat) : Int) * (D : Int) ≤ -(A : Int) := g
    have g2 := z0 r (by omega)
    have g3 : A = 0 := by omega
    show ((rval F32 r : Nat) : Int) ≤ -((rval F32 q : Nat) : Int)
    rw [q0 g3,g2,show ((rval F32 0 : Nat) : Int) = 0 from congrArg Int.ofNat z]; decide
  · have g1 : (A : Int) ≤ -(((rval F32 r : Nat) : Int) * (D : Int)) := g
    have g2 := z0 r (by omega)
    have g3 : A = 0 := by omega
    show ((rval F32 q : Nat) : Int) ≤ -((rval F32 r : Nat) : Int)
    rw [q0 g3,g2,show ((rval F32 0 : Nat) : Int) = 0 from congrArg Int.ofNat z]; decide
  · have g1 : -(A : Int) ≤ -(((rval F32 r : Nat) : Int) * (D : Int)) := g
    have := rv_le (k.2 (by omega)); show -((rval F32 q : Nat) : Int) ≤ -((rval F32 r : Nat) : Int); omega
  · show -((rval F32 r : Nat) : Int) ≤ ((rval F32 q : Nat) : Int); omega
  · have g1 : -(((rval F32 r : Nat) : Int) * (D : Int)) ≤ -(A : Int) := g
    have := rv_le (k.1 (by omega)); show -((rval F32 r : Nat) : Int) ≤ -((rval F32 q : Nat) : Int); omega

structure Mg (m : Nat) (p : Int) (A D : Nat) : Prop where
  up : ∀ r,r < 2139095040 → A ≤ rval F32 r * D → m * 2 ^ (p + 149).toNat ≤ rval F32 r * 2 ^ (-149 - p).toNat
  dn : ∀ r,r < 2139095040 → rval F32 r * D ≤ A → rval F32 r * 2 ^ (-149 - p).toNat ≤ m * 2 ^ (p + 149).toNat
theorem Mg.near {m : Nat} {p : Int} {A D : Nat} (h : Mg m p A D) (s : Bool) (hA : A ≤ rval F32 2139095039 * D) : ∃ q,q < 2139095040 ∧ F32.nearest s m p = F32.word s q ∧ Rg q A D := by
  have e1 : p - F32.leastPlace = p + 149 := by rw [F_lp]; omega
  obtain ⟨q,hq,e⟩ := nearest_le F32 s m p 2139095039 (by rw [F_inf]; decide) (by rw [e1,F_lp]; exact h.up _ (by decide) hA)
  have inj : ∀ q',q' ≤ 2139095040 → F32.word s q = F32.word s q' → q = q' := fun q' h' g => by
    have := congrArg (· % 2147483648) g
    simpa only [word_mg s q (by omega),word_mg s q' h'] using this
  refine ⟨q,by omega,e,fun r hr => ⟨fun g => ?_,fun g => ?_⟩⟩
  · obtain ⟨q',hq',e'⟩ := nearest_le F32 s m p r (by rw [F_inf]; omega) (by rw [e1,F_lp]; exact h.up r hr g)
    rw [inj q' (by omega) (e.symm.trans e')]; exact hq'
  · obtain ⟨q',hq',e'⟩ := nearest_ge F32 s m p r (by rw [F_inf]; omega) (by rw [e1,F_lp]; exact h.dn r hr g)
    by_cases hb : q' ≤ 2139095040
    · rw [inj q' hb (e.symm.trans e')]; exact hq'
    · have h1 := congrArg (fun x => x % 2147483648) (e.symm.trans e')
      simp only [word_mg s q (by omega)] at h1
      exfalso
      have h2 : ∀ x,F32.nearest s m p = F32.word s x → x ≤ 2139095040 ∨ 2139095040 < x := fun x _ => by omega
      have h3 : F32.nearest s m p % 2147483648 = q := by rw [e,word_mg s q (by omega)]
      have h4 : F32.nearest s m p = F32.word s q' := e'
      have h5 : F32.nearest s m p = F32.word s q := e
      have h6 : F32.word s q = F32.word s q' := h5.symm.trans h4
      unfold Format.word at h6
      cases s
      · simp at h6; omega
      · simp at h6; omega
theorem Mg.fr {m : Nat} {p : Int} {A D : Nat} (h : Mg m p A D) (s : Bool) (hD : 0 < D) (hA : A ≤ rval F32 2139095039 * D) : Fr (F32.nearest s m p) (if s then -(A : Int) else A) D := by
  obtain ⟨q,hq,e,hr⟩ := h.near s hA
  rw [e]; exact fr_word s hD hq hr

theorem read_sv {a : Nat} (h : Fi a) : ∃ s m i,F32.read a = .number s m i ∧ -149 ≤ i ∧ sv a = (if s then -((m * 2 ^ (i + 149).toNat : Nat) : Int) else ((m * 2 ^ (i + 149).toNat : Nat) : Int)) := by
  obtain ⟨m,i,e,hi,v,_⟩ := read_le (a := a) (r := a % 2147483648) (Nat.le_refl _) h
  refine ⟨_,m,i,e,hi,?_⟩
  unfold sv
  rw [v]
abbrev FM : Int := ((rval F32 2139095039 : Nat) : Int)

theorem sum_fr {a b : Nat} {x y : Datum} {s t : Bool} {m n : Nat} {i j : Int} (hi : -149 ≤ i) (hj : -149 ≤ j) {u v : Int}
    (hu : u = (if s then -((m * 2 ^ (i + 149).toNat : Nat) : Int) else ((m * 2 ^ (i + 149).toNat : Nat) : Int))) (hv : v = (if t then -((n * 2 ^ (j + 149).toNat : Nat) : Int) else ((n * 2 ^ (j + 149).toNat : Nat) : Int)))
    (h1 : u + v ≤ FM) (h2 : -FM ≤ u + v) : ∃ w,(Datum.sum (.number s m i) (.number t n j)).map F32.write = some w ∧ Fr w (u + v) 1 := by
  refine ⟨_,rfl,?_⟩
  have su : u = signed s m (i - min i j).toNat * 2 ^ (min i j + 149).toNat := by
    rw [hu,signed_mul,Int.mul_assoc,Int.mul_assoc,← Int.pow_add,show (i - min i j).toNat + (min i j + 149).toNat = (i + 149).toNat by omega]
    rw [Int.natCast_mul,Int.natCast_pow]
    cases s <;> simp
  have sv' : v = signed t n (j - min i j).toNat * 2 ^ (min i j + 149).toNat := by
    rw [hv,signed_mul,Int.mul_assoc,Int.mul_assoc,← Int.pow_add,show (j - min i j).toNat + (min i j + 149).toNat = (j + 149).toNat by omega]
    rw [Int.natCast_mul,Int.natCast_pow]
    cases t <;> simp
  have suv : u + v = (signed s m (i - min i j).toNat + signed t n (j - min i j).toNat) * 2 ^ (min i j + 149).toNat := by rw [su,sv',Int.add_mul]
  generalize hT : signed s m (i - min i j).toNat + signed t n (j - min i j).toNat = T at suv
  have hp : (0 : Int) < 2 ^ (min i j + 149).toNat := Int.pow_pos (by decide)
  show Fr (F32.nearest (if T = 0 then s && t else decide (T < 0)) T.natAbs (min i j)) (u + v) 1
  have hA : (((T.natAbs * 2 ^ (min i j + 149).toNat : Nat) : Int)) = if decide (T < 0) then -(u + v) else u + v := by
    rw [Int.natCast_mul,Int.natCast_pow,suv]
    by_cases h : T < 0
    · rw [decide_eq_true h,if_pos rfl,← Int.neg_mul]; congr 1; omega
    · rw [decide_eq_false h,if_neg (by decide)]; congr 1; omega
  have mg : Mg T.natAbs (min i j) (T.natAbs * 2 ^ (min i j + 149).toNat) 1 := by
    refine ⟨fun r _ g => ?_,fun r _ g => ?_⟩
    · rw [show (-149 - min i j).toNat = 0 by omega,Nat.pow_zero]; exact g
    · rw [show (-149 - min i j).toNat = 0 by omega,Nat.pow_zero]; exact g
  have fr := mg.fr (if T = 0 then s && t else decide (T < 0)) (by decide) (by
    have hF : FM = ((rval F32 2139095039 : Nat) : Int) := rfl
    have : ((T.natAbs * 2 ^ (min i j + 149).toNat : Nat) : Int) ≤ FM := by rw [hA]; split <;> omega
    rw [Nat.mul_one]; omega)
  by_cases h0 : T = 0
  · have e0 : u + v = 0 := by rw [suv,h0,Int.zero_mul]
    have ez : (((T.natAbs * 2 ^ (min i j + 149).toNat : Nat) : Int)) = 0 := by rw [h0]; simp
    rw [ez] at fr
    rw [e0]
    cases hs : (if T = 0 then s && t else decide (T < 0)) <;> rw [hs] at fr <;> simpa using fr
  · rw [if_neg h0] at fr ⊢
    by_cases h : T < 0
    · rw [decide_eq_true h,if_pos rfl] at fr hA
      rw [hA,Int.neg_neg] at fr
      rw [decide_eq_true h]; exact fr
    · rw [decide_eq_false h,if_neg (by decide)] at fr hA
      rw [hA] at fr
      rw [decide_eq_false h]; exact fr
theorem add_fr {a b : Nat} (ha : Fi a) (hb : Fi b) (h1 : sv a + sv b ≤ FM) (h2 : -FM ≤ sv a + sv b) : Fr (fadd .f32 a b) (sv a + sv b) 1 := by
  obtain ⟨s,m,i,e1,i1,v1⟩ := read_sv ha
  obtain ⟨t,n,j,e2,i2,v2⟩ := read_sv hb
  obtain ⟨w,hw,fr⟩ := sum_fr (a := a) (b := b) (x := .infinity s) (y := .infinity s) i1 i2 v1 v2 h1 h2
  unfold fadd Format.add
  rw [e1,e2,hw]; exact fr
theorem sub_fr {a b : Nat} (ha : Fi a) (hb : Fi b) (h1 : sv a - sv b ≤ FM) (h2 : -FM ≤ sv a - sv b) : Fr (fsub .f32 a b) (sv a - sv b) 1 := by
  obtain ⟨s,m,i,e1,i1,v1⟩ := read_sv ha
  obtain ⟨t,n,j,e2,i2,v2⟩ := read_sv hb
  have v3 : -sv b = (if !t then -((n * 2 ^ (j + 149).toNat : Nat) : Int) else ((n * 2 ^ (j + 149).toNat : Nat) : Int)) := by
    rw [v2]; cases t <;> simp
  obtain ⟨w,hw,fr⟩ := sum_fr (a := a) (b := b) (x := .infinity s) (y := .infinity s) i1 i2 v1 v3 (by omega) (by omega)
  unfold fsub Format.sub
  rw [e1,e2]
  show Fr (((Datum.sum (.number s m i) (.number (!t) n j)).map F32.write).getD _) _ _
  rw [hw,Int.sub_eq_add_neg]; exact fr
theorem mul_fr {a b : Nat} (ha : Fi a) (hb : Fi b) (h1 : sv a * sv b ≤ FM * 2 ^ 149) (h2 : -(FM * 2 ^ 149) ≤ sv a * sv b) : Fr (fmul .f32 a b) (sv a * sv b) (2 ^ 149) := by
  obtain ⟨s,m,i,e1,i1,v1⟩ := read_sv ha
  obtain ⟨t,n,j,e2,i2,v2⟩ := read_sv hb
  unfold fmul Format.mul
  rw [e1,e2]
  simp only [Datum.product,Option.map_some,Option.getD_some]
  unfold Format.write
  simp only
  have ev : sv a * sv b = if s ^^ t then -(((m * 2 ^ (i + 149).toNat * (n * 2 ^ (j + 149).toNat) : Nat)) : Int) else (((m * 2 ^ (i + 149).toNat * (n * 2 ^ (j + 149).toNat) : Nat)) : Int) := by
    rw [v1,v2,Int.natCast_mul (m * 2 ^ (i + 149).toNat)]
    cases s <;> cases t <;> simp [Int.neg_mul,Int.mul_neg]
  have hpow : 2 ^ (i + 149).toNat * 2 ^ (j + 149).toNat * 2 ^ (-149 - (i + j)).toNat = 2 ^ (i + j + 149).toNat * 2 ^ 149 := by
    rw [← Nat.pow_add,← Nat.pow_add,← Nat.pow_add]; congr 1; omega
  have hv : m * n * 2 ^ (i + j + 149).toNat * 2 ^ 149 = m * 2 ^ (i + 149).toNat * (n * 2 ^ (j + 149).toNat) * 2 ^ (-149 - (i + j)).toNat := by
    rw [Nat.mul_mul_mul_comm,Nat.mul_assoc,← hpow,Nat.mul_assoc (m * n)]
  have mg : Mg (m * n) (i + j) (m * 2 ^ (i + 149).toNat * (n * 2 ^ (j + 149).toNat)) (2 ^ 149) := by
    generalize m * 2 ^ (i + 149).toNat * (n * 2 ^ (j + 149).toNat) = A at *
    refine ⟨fun r _ g => ?_,fun r _ g => ?_⟩
    · refine Nat.le_of_mul_le_mul_right (c := 2 ^ 149) ?_ (Nat.two_pow_pos _)
      rw [hv,Nat.mul_right_comm]
      exact Nat.mul_le_mul_right _ g
    · refine Nat.le_of_mul_le_mul_right (c := 2 ^ 149) ?_ (Nat.two_pow_pos _)
      rw [hv,Nat.mul_right_comm]
      exact Nat.mul_le_mul_right _ g
  have fr := mg.fr (s ^^ t) (Nat.two_pow_pos _) (by
    have e := ev
    have c : ((rval F32 2139095039 * 2 ^ 149 : Nat) : Int) = FM * 2 ^ 149 := by rw [Int.natCast_mul,Int.natCast_pow]; rfl
    rw [← c] at h1 h2
    clear mg hv c hpow
    generalize m * 2 ^ (i + 149).toNat * (n * 2 ^ (j + 149).toNat) = A at *
    generalize rval F32 2139095039 * 2 ^ 149 = B at *
    cases hst : s ^^ t <;> rw [hst] at e <;> simp at e <;> omega)
  rw [ev]; exact fr
end Go.Ab

namespace Go.Ab
open Ieee

theorem rep_grid (r k : Nat) (h : 2 ^ (k + 23) ≤ rval F32 r) : ∃ c,rval F32 r = c * 2 ^ k := by
  have hB : F32.binade = 2 ^ 23 := by decide +kernel
  unfold rval at h ⊢
  rw [hB] at h ⊢
  by_cases h1 : r < 2 ^ 23
  · rw [if_pos h1] at h
    have : 2 ^ 23 ≤ 2 ^ (k + 23) := Nat.pow_le_pow_right (by decide) (by omega)
    omega
  · rw [if_neg h1] at h ⊢
    have h2 : 2 ^ 23 + r % 2 ^ 23 < 2 ^ 24 := by
      have := Nat.mod_lt r (show 0 < 2 ^ 23 by decide)
      omega
    have h3 : 2 ^ (k + 23) < 2 ^ (24 + (r / 2 ^ 23 - 1)) := by
      rw [Nat.pow_add 2 24]
      exact Nat.lt_of_le_of_lt h (Nat.mul_lt_mul_of_pos_right h2 (Nat.two_pow_pos _))
    have h4 := (Nat.pow_lt_pow_iff_right (by decide : 1 < 2)).1 h3
    refine ⟨(2 ^ 23 + r % 2 ^ 23) * 2 ^ (r / 2 ^ 23 - 1 - k),?_⟩
    rw [Nat.mul_assoc,← Nat.pow_add]
    congr 2
    omega

structure Stk (Q F : Nat) (U L : Nat → Prop) : Prop where
  lo : 2 ^ 24 ≤ F
  q1 : 2 * F ≤ Q
  u : ∀ c,U c → F ≤ c ∧ Q ≤ 2 * c
  d : ∀ c,L c → c ≤ F
theorem stk_quot {D n : Nat} (hn : 0 < n) (hF : 2 ^ 24 ≤ D / n) : Stk (2 * (D / n) + (D % n != 0).toNat) (D / n) (fun c => D ≤ c * n) (fun c => c * n ≤ D) := by
  have hdm := Nat.div_add_mod D n
  have hm := Nat.mod_lt D hn
  refine ⟨hF,Nat.le_add_right _ _,fun c hc => ?_,fun c hc => (Nat.le_div_iff_mul_le hn).2 hc⟩
  have h1 : D / n ≤ c := by
    refine Nat.le_of_mul_le_mul_right (c := n) ?_ hn
    exact Nat.le_trans (Nat.div_mul_le_self _ _) hc
  refine ⟨h1,?_⟩
  by_cases h0 : D % n = 0
  · rw [h0]; exact Nat.mul_le_mul_left 2 h1
  · have h2 : D / n ≠ c := fun e => by
      rw [← e,Nat.mul_comm] at hc
      omega
    have : (D % n != 0).toNat ≤ 1 := by cases (D % n != 0) <;> decide
    omega
theorem root_spec (n : Nat) : ∀ (todo root : Nat),root * root ≤ n → n < (root + 2 ^ todo) * (root + 2 ^ todo) → Datum.rootFrom n todo root * Datum.rootFrom n todo root ≤ n ∧ n < (Datum.rootFrom n todo root + 1) * (Datum.rootFrom n todo root + 1)
  | 0,root,h1,h2 => ⟨h1,h2⟩
  | todo + 1,root,h1,h2 => by
    unfold Datum.rootFrom
    simp only [Nat.one_shiftLeft]
    by_cases h : (root + 2 ^ todo) * (root + 2 ^ todo) ≤ n
    · rw [if_pos h]
      exact root_spec n todo _ h (by rw [Nat.add_assoc,← Nat.two_mul,← Nat.pow_succ']; exact h2)
    · rw [if_neg h]
      exact root_spec n todo _ h1 (by omega)
theorem sq_le {a b : Nat} : a * a ≤ b * b ↔ a ≤ b := by
  refine ⟨fun h => Nat.le_of_not_lt fun g => ?_,fun h => Nat.mul_le_mul h h⟩
  have := Nat.mul_lt_mul_of_lt_of_lt g g
  omega
theorem stk_root {N W : Nat} (h1 : W * W ≤ N) (h2 : N < (W + 1) * (W + 1)) (hW : 2 ^ 24 ≤ W) : Stk (2 * W + (W * W != N).toNat) W (fun c => N ≤ c * c) (fun c => c * c ≤ N) := by
  refine ⟨hW,Nat.le_add_right _ _,fun c hc => ?_,fun c hc => ?_⟩
  · have h3 : W ≤ c := sq_le.1 (Nat.le_trans h1 hc)
    refine ⟨h3,?_⟩
    by_cases h0 : W * W = N
    · rw [h0,bne_self_eq_false]; exact Nat.mul_le_mul_left 2 h3
    · have h4 : W ≠ c := fun e => by rw [e] at h1 h0; omega
      have : (W * W != N).toNat ≤ 1 := by cases (W * W != N) <;> decide
      omega
  · refine Nat.le_of_not_lt fun g => ?_
    have : (W + 1) * (W + 1) ≤ c * c := Nat.mul_le_mul g g
    omega
theorem Stk.up1 {Q F : Nat} {U L : Nat → Prop} (h : Stk Q F U L) {R k : Nat} (g : U (R * 2 ^ k)) : Q ≤ R * 2 ^ (k + 1) := by
  rw [Nat.pow_succ,← Nat.mul_assoc,Nat.mul_comm _ 2]; exact (h.u _ g).2
theorem Stk.dn1 {Q F : Nat} {U L : Nat → Prop} (h : Stk Q F U L) {R k : Nat} (g : L (R * 2 ^ k)) : R * 2 ^ (k + 1) ≤ Q := by
  rw [Nat.pow_succ,← Nat.mul_assoc,Nat.mul_comm _ 2]
  exact Nat.le_trans (Nat.mul_le_mul_left 2 (h.d _ g)) h.q1
theorem Stk.up2 {Q F : Nat} {U L : Nat → Prop} (h : Stk Q F U L) {r k : Nat} (hg : F * 2 ^ k ≤ rval F32 r) (g : ∀ c,rval F32 r = c * 2 ^ k → U c) : Q * 2 ^ k ≤ 2 * rval F32 r := by
  obtain ⟨c,hc⟩ := rep_grid r k (by
    refine Nat.le_trans ?_ hg
    rw [Nat.add_comm,Nat.pow_add]
    exact Nat.mul_le_mul_right _ (Nat.le_trans (by decide) h.lo))
  rw [hc,← Nat.mul_assoc]
  exact Nat.mul_le_mul_right _ (h.u c (g c hc)).2
theorem Stk.dn2 {Q F : Nat} {U L : Nat → Prop} (h : Stk Q F U L) {r k : Nat} (g : ∀ c,rval F32 r = c * 2 ^ k → L c) : 2 * rval F32 r ≤ Q * 2 ^ k := by
  refine Nat.le_trans ?_ (Nat.mul_le_mul_right _ h.q1)
  rw [Nat.mul_assoc]
  refine Nat.mul_le_mul_left 2 ?_
  by_cases hg : 2 ^ (k + 23) ≤ rval F32 r
  · obtain ⟨c,hc⟩ := rep_grid r k hg
    rw [hc]
    exact Nat.mul_le_mul_right _ (h.d c (g c hc))
  · refine Nat.le_trans (Nat.le_of_lt (Nat.lt_of_not_le hg)) ?_
    rw [Nat.add_comm,Nat.pow_add]
    exact Nat.mul_le_mul_right _ (Nat.le_trans (by decide) h.lo)

theorem Stk.up {Q F : Nat} {U L : Nat → Prop} (h : Stk Q F U L) {e : Int} {r t : Nat} (ht : 0 ≤ (t : Int) + e + 148)
    (c1 : ∀ k : Nat,e + 149 = -(k : Int) → U (rval F32 r * 2 ^ k)) (c2 : ∀ k : Nat,e + 149 = (k : Int) → F * 2 ^ k ≤ rval F32 r ∧ ∀ c,rval F32 r = c * 2 ^ k → U c) :
    Q * 2 ^ ((t : Int) + e + 148).toNat ≤ rval F32 r * 2 ^ t := by
  by_cases he : e + 149 ≤ 0
  · obtain ⟨k,hk⟩ : ∃ k : Nat,e + 149 = -(k : Int) := ⟨(-(e + 149)).toNat,by omega⟩
    have h1 := Nat.mul_le_mul_right (2 ^ (t - k - 1)) (h.up1 (c1 k hk))
    rw [Nat.mul_assoc,← Nat.pow_add,show k + 1 + (t - k - 1) = t by omega] at h1
    rw [show ((t : Int) + e + 148).toNat = t - k - 1 by omega]; exact h1
  · obtain ⟨k,hk⟩ : ∃ k : Nat,e + 149 = (k : Int) := ⟨(e + 149).toNat,by omega⟩
    have h1 := Nat.mul_le_mul_right (2 ^ t) (h.up2 (c2 k hk).1 (c2 k hk).2)
    rw [show ((t : Int) + e + 148).toNat = t + k - 1 by omega]
    refine Nat.le_of_mul_le_mul_left (c := 2) ?_ (by decide)
    rw [← Nat.mul_assoc 2 (rval F32 r)]
    refine Nat.le_trans (Nat.le_of_eq ?_) h1
    rw [Nat.mul_assoc Q,← Nat.pow_add,Nat.mul_left_comm,← Nat.pow_succ',show (t + k - 1).succ = k + t by omega]
theorem Stk.dn {Q F : Nat} {U L : Nat → Prop} (h : Stk Q F U L) {e : Int} {r t : Nat} (ht : 0 ≤ (t : Int) + e + 148)
    (c1 : ∀ k : Nat,e + 149 = -(k : Int) → L (rval F32 r * 2 ^ k)) (c2 : ∀ k : Nat,e + 149 = (k : Int) → ∀ c,rval F32 r = c * 2 ^ k → L c) :
    rval F32 r * 2 ^ t ≤ Q * 2 ^ ((t : Int) + e + 148).toNat := by
  by_cases he : e + 149 ≤ 0
  · obtain ⟨k,hk⟩ : ∃ k : Nat,e + 149 = -(k : Int) := ⟨(-(e + 149)).toNat,by omega⟩
    have h1 := Nat.mul_le_mul_right (2 ^ (t - k - 1)) (h.dn1 (c1 k hk))
    rw [Nat.mul_assoc,← Nat.pow_add,show k + 1 + (t - k - 1) = t by omega] at h1
    rw [show ((t : Int) + e + 148).toNat = t - k - 1 by omega]; exact h1
  · obtain ⟨k,hk⟩ : ∃ k : Nat,e + 149 = (k : Int) := ⟨(e + 149).toNat,by omega⟩
    have h1 := Nat.mul_le_mul_right (2 ^ t) (h.dn2 (c2 k hk))
    rw [show ((t : Int) + e + 148).toNat = t + k - 1 by omega]
    refine Nat.le_of_mul_le_mul_left (c := 2) ?_ (by decide)
    rw [← Nat.mul_assoc 2 (rval F32 r)]
    refine Nat.le_trans h1 (Nat.le_of_eq ?_)
    rw [Nat.mul_assoc Q,← Nat.pow_add,Nat.mul_left_comm 2 Q,← Nat.pow_succ',show (t + k - 1).succ = k + t by omega]

theorem div_mg {a b : Nat} (ha : Fi a) (hb : Fi b) (h0 : 0 < sv b) : ∃ s Q p A,fdiv .f32 a b = F32.nearest s Q p ∧ Mg Q p A (sv b).toNat ∧ sv a * 2 ^ 149 = (if s then -(A : Int) else A) ∧ 0 < (sv b).toNat ∧ (a < 2147483648 → s = false) := by
  obtain ⟨s,m,i,e1,i1,v1⟩ := read_sv ha
  have hsg : s = (a / 2147483648 % 2 == 1) := by
    obtain ⟨m',i',e',_⟩ := read_le (a := a) (r := a % 2147483648) (Nat.le_refl _) ha
    rw [e1] at e'
    cases e'; rfl
  obtain ⟨t,n,j,e2,i2,v2⟩ := read_sv hb
  have ht : t = false := by
    cases t with
    | false => rfl
    | true => rw [if_pos rfl] at v2; omega
  subst ht
  rw [if_neg (by decide)] at v2
  have hn : 0 < n := Nat.pos_of_ne_zero fun e => by rw [e,Nat.zero_mul] at v2; omega
  have hDn : (sv b).toNat = n * 2 ^ (j + 149).toNat := by rw [v2]; exact Int.toNat_natCast _
  have hfr : F32.fractionBits = 23 := rfl
  have hD : 0 < n * 2 ^ (j + 149).toNat := Nat.mul_pos hn (Nat.two_pow_pos _)
  have ev : sv a * 2 ^ 149 = if s then -(((m * 2 ^ (i + 149).toNat * 2 ^ 149 : Nat)) : Int) else (((m * 2 ^ (i + 149).toNat * 2 ^ 149 : Nat)) : Int) := by
    rw [v1,Int.natCast_mul (m * 2 ^ (i + 149).toNat),Int.natCast_pow]
    cases s <;> simp [Int.neg_mul]
  unfold fdiv Format.div
  rw [e1,e2]
  simp only [Datum.quotient,if_neg (show ¬ n = 0 by omega),Option.map_some,Option.getD_some,Nat.shiftLeft_eq]
  unfold Format.write
  simp only
  rw [Bool.xor_false,ev,hDn]
  have hs : a < 2147483648 → s = false := fun h => by rw [hsg,sgn_pos h]
  by_cases hm : m = 0
  · subst hm
    refine ⟨s,_,_,_,rfl,⟨fun r _ _ => ?_,fun r _ g => ?_⟩,rfl,hD,hs⟩
    · simp
    · rw [Nat.zero_mul,Nat.zero_mul] at g
      have : rval F32 r = 0 := (Nat.mul_eq_zero.1 (Nat.le_zero.1 g)).resolve_right (by omega)
      rw [this,Nat.zero_mul]; exact Nat.zero_le _
  · have hlm : 2 ^ m.log2 ≤ m := Nat.log2_self_le hm
    have hln : n < 2 ^ (n.log2 + 1) := Nat.lt_log2_self
    have hF : 2 ^ 24 ≤ m * 2 ^ (F32.fractionBits + 2 + n.log2 - m.log2) / n := by
      rw [Nat.le_div_iff_mul_le hn,hfr]
      refine Nat.le_trans (Nat.mul_le_mul_left _ (Nat.le_of_lt hln)) ?_
      refine Nat.le_trans ?_ (Nat.mul_le_mul_right _ hlm)
      rw [← Nat.pow_add,← Nat.pow_add]
      exact Nat.pow_le_pow_right (by decide) (by omega)
    have st := stk_quot hn hF
    generalize hmo : F32.fractionBits + 2 + n.log2 - m.log2 = more at *
    have hlo : m * 2 ^ more / n * n ≤ m * 2 ^ more := Nat.div_mul_le_self _ _
    generalize m * 2 ^ more / n = F at hlo st hF
    generalize 2 * F + (m * 2 ^ more % n != 0).toNat = Q at st
    have t1 : ∀ k : Nat,(i - j - more) + 149 = -(k : Int) → m * 2 ^ (i + 149).toNat * 2 ^ 149 * 2 ^ k = m * 2 ^ more * 2 ^ (j + 149).toNat := fun k hk => by
      rw [Nat.mul_assoc,Nat.mul_assoc,Nat.mul_assoc m,← Nat.pow_add,← Nat.pow_add,← Nat.pow_add]
      congr 2; omega
    have t2 : ∀ k : Nat,(i - j - more) + 149 = (k : Int) → m * 2 ^ (i + 149).toNat * 2 ^ 149 = m * 2 ^ more * 2 ^ k * 2 ^ (j + 149).toNat := fun k hk => by
      rw [Nat.mul_assoc,Nat.mul_assoc m,Nat.mul_assoc m,← Nat.pow_add,← Nat.pow_add,← Nat.pow_add]
      congr 2; omega
    generalize m * 2 ^ (i + 149).toNat * 2 ^ 149 = A at *
    have mg : Mg Q (i - j - more - 1) A (n * 2 ^ (j + 149).toNat) := by
      refine ⟨fun r _ g => ?_,fun r _ g => ?_⟩
      · have := st.up (e := i - j - more) (r := r) (t := (-149 - (i - j - more - 1)).toNat) (by omega) (fun k hk => ?_) (fun k hk => ?_)
        · rw [show ((((-149 - (i - j - more - 1)).toNat : Nat) : Int) + (i - j - more) + 148).toNat = (i - j - more - 1 + 149).toNat by omega] at this
          exact this
        · show m * 2 ^ more ≤ rval F32 r * 2 ^ k * n
          refine Nat.le_of_mul_le_mul_right (c := 2 ^ (j + 149).toNat) ?_ (Nat.two_pow_pos _)
          rw [← t1 k hk,Nat.mul_assoc (rval F32 r),Nat.mul_comm (2 ^ k) n,← Nat.mul_assoc,Nat.mul_right_comm _ (2 ^ k),Nat.mul_assoc (rval F32 r)]
          exact Nat.mul_le_mul_right _ g
        · have h3 : m * 2 ^ more * 2 ^ k ≤ rval F32 r * n := by
            refine Nat.le_of_mul_le_mul_right (c := 2 ^ (j + 149).toNat) ?_ (Nat.two_pow_pos _)
            rw [← t2 k hk,Nat.mul_assoc (rval F32 r)]; exact g
          refine ⟨?_,fun c hc => ?_⟩
          · refine Nat.le_of_mul_le_mul_right (c := n) ?_ hn
            refine Nat.le_trans ?_ h3
            rw [Nat.mul_right_comm]
            exact Nat.mul_le_mul_right _ hlo
          · show m * 2 ^ more ≤ c * n
            rw [hc,Nat.mul_right_comm c] at h3
            exact Nat.le_of_mul_le_mul_right h3 (Nat.two_pow_pos _)
      · have := st.dn (e := i - j - more) (r := r) (t := (-149 - (i - j - more - 1)).toNat) (by omega) (fun k hk => ?_) (fun k hk => ?_)
        · rw [show ((((-149 - (i - j - more - 1)).toNat : Nat) : Int) + (i - j - more) + 148).toNat = (i - j - more - 1 + 149).toNat by omega] at this
          exact this
        · show rval F32 r * 2 ^ k * n ≤ m * 2 ^ more
          refine Nat.le_of_mul_le_mul_right (c := 2 ^ (j + 149).toNat) ?_ (Nat.two_pow_pos _)
          rw [← t1 k hk,Nat.mul_assoc (rval F32 r),Nat.mul_comm (2 ^ k) n,← Nat.mul_assoc,Nat.mul_right_comm _ (2 ^ k),Nat.mul_assoc (rval F32 r)]
          exact Nat.mul_le_mul_right _ g
        · have h3 : rval F32 r * n ≤ m * 2 ^ more * 2 ^ k := by
            refine Nat.le_of_mul_le_mul_right (c := 2 ^ (j + 149).toNat) ?_ (Nat.two_pow_pos _)
            rw [← t2 k hk,Nat.mul_assoc (rval F32 r)]; exact g
          intro c hc
          show c * n ≤ m * 2 ^ more
          rw [hc,Nat.mul_right_comm c] at h3
          exact Nat.le_of_mul_le_mul_right h3 (Nat.two_pow_pos _)
    exact ⟨s,_,_,A,rfl,mg,rfl,hD,hs⟩
theorem div_fr {a b : Nat} (ha : Fi a) (hb : Fi b) (h0 : 0 < sv b) (h1 : sv a * 2 ^ 149 ≤ FM * sv b) (h2 : -(FM * sv b) ≤ sv a * 2 ^ 149) : Fr (fdiv .f32 a b) (sv a * 2 ^ 149) (sv b).toNat := by
  obtain ⟨s,Q,p,A,e,mg,ev,hD,_⟩ := div_mg ha hb h0
  rw [e,ev]
  refine mg.fr s hD ?_
  have c : ((rval F32 2139095039 * (sv b).toNat : Nat) : Int) = FM * sv b := by
    rw [Int.natCast_mul,Int.toNat_of_nonneg (by omega)]
  rw [← c] at h1 h2
  rw [ev] at h1 h2
  clear c ev mg e
  generalize rval F32 2139095039 * (sv b).toNat = B at *
  cases s <;> simp at h1 h2 <;> omega
theorem div_ge {a b r : Nat} (ha : a < 2139095040) (hb : Fi b) (h0 : 0 < sv b) (hr : r < 2139095040) (h : ((rval F32 r : Nat) : Int) * sv b ≤ sv a * 2 ^ 149) : r ≤ fdiv .f32 a b ∧ fdiv .f32 a b ≤ 2139095040 := by
  obtain ⟨s,Q,p,A,e,mg,ev,hD,hs⟩ := div_mg (a := a) (by unfold Fi; omega) hb h0
  rw [hs (by omega)] at e ev
  rw [if_neg (by decide)] at ev
  obtain ⟨q,hq,eq⟩ := nearest_ge F32 false Q p r (by rw [F_inf]; omega) (by
    rw [F_lp,show p - -149 = p + 149 by omega]
    refine mg.dn r hr ?_
    have c : ((rval F32 r * (sv b).toNat : Nat) : Int) = (rval F32 r : Int) * sv b := by
      rw [Int.natCast_mul,Int.toNat_of_nonneg (by omega)]
    rw [← c,ev] at h
    exact Int.ofNat_le.1 h)
  have := near_le Q p
  rw [e]
  refine ⟨?_,this⟩
  rw [eq]; exact hq
end Go.Ab

namespace Go.Ab
open Ieee

abbrev F64 : Format := FloatKind.f64.format
theorem D_inf : F64.infRung = 9218868437227405312 := by decide +kernel
theorem D_sw : F64.signWeight = 9223372036854775808 := by decide +kernel
theorem D_lp : F64.leastPlace = -1074 := by decide +kernel
theorem D_bin : F64.binade = 2 ^ 52 := by decide +kernel
theorem F_bin : F32.binade = 2 ^ 23 := by decide +kernel

theorem read64 {q : Nat} (h : q < 9218868437227405312) : ∃ m i,F64.read q = .number false m i ∧ -1074 ≤ i ∧ m * 2 ^ (i + 1074).toNat = rval F64 q := by
  have hm : q % 9223372036854775808 = q := Nat.mod_eq_of_lt (by omega)
  obtain ⟨m,i,h1,h2,h3⟩ := read_fin F64 q (by rw [D_sw,D_inf,hm]; exact h)
  rw [D_sw] at h1 h3
  rw [D_lp] at h2 h3
  rw [hm,show i - -1074 = i + 1074 by omega] at h3
  rw [Nat.div_eq_of_lt (by omega)] at h1
  exact ⟨m,i,h1,h2,h3⟩
def TBn : Nat := 925
def TB : Nat := 2 ^ TBn
theorem tbn : TBn = 925 := rfl
theorem tb_pos : 0 < TB := Nat.two_pow_pos TBn
theorem tb_add {a b : Nat} (h : a = b + 925) : 2 ^ b * TB = 2 ^ a := by
  unfold TB
  rw [← Nat.pow_add,tbn,← h]
theorem tb_eq {a b : Nat} (h : a + b = 925) : 2 ^ a * 2 ^ b = TB := by
  unfold TB
  rw [← Nat.pow_add,tbn,h]
theorem rung64 (r : Nat) (hr : r < 2139095040) : ∃ q,q < 9218868437227405312 ∧ rval F64 q = rval F32 r * TB := by
  obtain ⟨m,i,e,hi,v,_⟩ := read_le (le_of_pos (Nat.le_refl r) (by omega)) hr
  rw [Nat.mod_eq_of_lt (by omega)] at v
  by_cases h0 : m = 0
  · refine ⟨0,by decide,?_⟩
    rw [rval_zero,← v,h0,Nat.zero_mul,Nat.zero_mul]
  · have hm : m < 2 ^ 24 ∧ i ≤ 104 := by
      unfold Format.read at e
      rw [F_sw,F_bin,F_inf,F_lp] at e
      simp only at e
      rw [Nat.mod_eq_of_lt (show r < 2147483648 by omega)] at e
      split at e
      · cases e; omega
      · cases e
        have := Nat.mod_lt r (show 0 < 2 ^ 23 by decide)
        omega
    have hl : m.log2 < 24 := (Nat.log2_lt h0).2 hm.1
    have h1 : 2 ^ m.log2 ≤ m := Nat.log2_self_le h0
    have h2 : m < 2 ^ (m.log2 + 1) := Nat.lt_log2_self
    generalize hE : (i + 1074 - (52 - m.log2 : Nat)).toNat = E
    have hE1 : E ≤ 1178 := by omega
    have hE2 : (i + 1074).toNat = E + (52 - m.log2) := by omega
    refine ⟨E * F64.binade + m * 2 ^ (52 - m.log2),?_,?_⟩
    · have h3 : m * 2 ^ (52 - m.log2) < 2 ^ 53 := by
        refine Nat.lt_of_lt_of_le (Nat.mul_lt_mul_of_pos_right h2 (Nat.two_pow_pos _)) ?_
        rw [← Nat.pow_add]; exact Nat.pow_le_pow_right (by decide) (by omega)
      have h4 := Nat.mul_le_mul_right (2 ^ 52) hE1
      rw [D_bin]; omega
    · rw [rval_mul]
      · rw [Nat.mul_assoc,← Nat.pow_add,show 52 - m.log2 + E = (i + 1074).toNat by omega,← v,Nat.mul_assoc,tb_add (a := (i + 1074).toNat) (by omega)]
      · rw [D_bin]
        refine Nat.le_trans ?_ (Nat.mul_le_mul_right _ h1)
        rw [← Nat.pow_add]; exact Nat.pow_le_pow_right (by decide) (by omega)
      · rw [D_bin,← Nat.pow_succ']
        refine Nat.le_trans (Nat.mul_le_mul_right _ (Nat.le_of_lt h2)) ?_
        rw [← Nat.pow_add]; exact Nat.pow_le_pow_right (by decide) (by omega)
theorem widen_val {x : Nat} (hx : x < 2139095040) : ∃ q,widen x = q ∧ q < 9218868437227405312 ∧ rval F64 q = rval F32 x * TB := by
  obtain ⟨q,hq,hv⟩ := rung64 x hx
  obtain ⟨m,i,e,hi,v,_⟩ := read_le (le_of_pos (Nat.le_refl x) (by omega)) hx
  rw [Nat.mod_eq_of_lt (by omega)] at v
  rw [sgn_pos (by omega)] at e
  have hw : widen x = F64.nearest false m i := by
    unfold widen
    rw [show FloatKind.f32.decode x = .number false m i from e]
    rfl
  have h1 : m * 2 ^ (i - F64.leastPlace).toNat = rval F64 q * 2 ^ (F64.leastPlace - i).toNat := by
    rw [D_lp,hv,← v,show (-1074 - i).toNat = 0 by omega,Nat.pow_zero,Nat.mul_one,Nat.mul_assoc,tb_add (a := (i - -1074).toNat) (by omega)]
  obtain ⟨a,ha,ea⟩ := nearest_le F64 false m i q (by rw [D_inf]; omega) (Nat.le_of_eq h1)
  obtain ⟨b,hb,eb⟩ := nearest_ge F64 false m i q (by rw [D_inf]; omega) (Nat.le_of_eq h1.symm)
  have hab : a = b := ea.symm.trans eb
  refine ⟨q,?_,hq,hv⟩
  rw [hw,ea]
  show a = q
  omega

theorem root_fr {x : Nat} (hx : x < 2139095040) : ∃ q,q < 2139095040 ∧ narrowOk (fsqrt .f64 (widen x)) = true ∧ narrow (fsqrt .f64 (widen x)) = q ∧
    ∀ r,r < 2139095040 → (rval F32 x * 2 ^ 149 ≤ rval F32 r * rval F32 r → q ≤ r) ∧ (rval F32 r * rval F32 r ≤ rval F32 x * 2 ^ 149 → r ≤ q) := by
  obtain ⟨w,ew,hw,vw⟩ := widen_val hx
  rw [ew]
  obtain ⟨m,i,e,hi,v⟩ := read64 hw
  rw [vw] at v
  -- the root as a float64
  have key : ∃ q1,q1 < 9218868437227405312 ∧ fsqrt .f64 w = q1 ∧ ∀ r,r < 2139095040 → (rval F32 x * 2 ^ 149 ≤ rval F32 r * rval F32 r → rval F64 q1 ≤ rval F32 r * TB) ∧ (rval F32 r * rval F32 r ≤ rval F32 x * 2 ^ 149 → rval F32 r * TB ≤ rval F64 q1) := by
    have hs : fsqrt .f64 w = (((Datum.number false m i).root 54).map F64.write).getD (qnan .f64) := by
      unfold fsqrt Format.sqrt
      rw [show FloatKind.f64.format.read w = _ from e]
      rfl
    by_cases hm : m = 0
    · subst hm
      have x0 : rval F32 x = 0 := by
        rw [Nat.zero_mul] at v
        exact (Nat.mul_eq_zero.1 v.symm).resolve_right (Nat.ne_of_gt tb_pos)
      refine ⟨0,by decide,?_,fun r _ => ⟨fun _ => by rw [rval_zero]; exact Nat.zero_le _,fun g => ?_⟩⟩
      · rw [hs]; rfl
      · rw [x0,Nat.zero_mul] at g
        have : rval F32 r = 0 := by
          rcases Nat.mul_eq_zero.1 (Nat.le_zero.1 g) with h | h <;> exact h
        rw [this,Nat.zero_mul]; exact Nat.zero_le _
    · have hl1 : 2 ^ m.log2 ≤ m := Nat.log2_self_le hm
      obtain ⟨more,hmo⟩ : ∃ more,2 * 54 - m.log2 + ((i - ((2 * 54 - m.log2 : Nat) : Int)) % 2).toNat = more := ⟨_,rfl⟩
      have hev : (i - (more : Int)) % 2 = 0 := by omega
      have hmore : more ≤ 109 ∧ 108 ≤ m.log2 + more := by omega
      have hN : 2 ^ 108 ≤ m * 2 ^ more := by
        refine Nat.le_trans ?_ (Nat.mul_le_mul_right _ hl1)
        rw [← Nat.pow_add]; exact Nat.pow_le_pow_right (by decide) hmore.2
      obtain ⟨W1,W2⟩ := root_spec (m * 2 ^ more) ((m * 2 ^ more).log2 / 2 + 1) 0 (by simp) (by
        rw [Nat.zero_add,← Nat.pow_add]
        exact Nat.lt_of_lt_of_le Nat.lt_log2_self (Nat.pow_le_pow_right (by decide) (by omega)))
      have hs2 : fsqrt .f64 w = F64.nearest false (2 * Datum.rootFrom (m * 2 ^ more) ((m * 2 ^ more).log2 / 2 + 1) 0 + (Datum.rootFrom (m * 2 ^ more) ((m * 2 ^ more).log2 / 2 + 1) 0 * Datum.rootFrom (m * 2 ^ more) ((m * 2 ^ more).log2 / 2 + 1) 0 != m * 2 ^ more).toNat) ((i - more) / 2 - 1) := by
        rw [hs]
        unfold Datum.root
        simp only [if_neg hm,Bool.false_eq_true,if_false,hmo,Nat.shiftLeft_eq,Option.map_some,Option.getD_some]
        rfl
      generalize Datum.rootFrom (m * 2 ^ more) ((m * 2 ^ more).log2 / 2 + 1) 0 = W at *
      have hW : 2 ^ 24 ≤ W := by
        refine Nat.le_of_not_lt fun g => ?_
        have h1 : (W + 1) * (W + 1) ≤ 2 ^ 24 * 2 ^ 24 := Nat.mul_le_mul g g
        have h2 : 2 ^ 24 * 2 ^ 24 ≤ 2 ^ 108 := by decide
        omega
      have st := stk_root W1 W2 hW
      generalize 2 * W + (W * W != m * 2 ^ more).toNat = Q at *
      obtain ⟨h,hh⟩ : ∃ h,(i - (more : Int)) / 2 = h := ⟨_,rfl⟩
      have h2 : i - more = 2 * h := by omega
      rw [hh] at hs2
      -- the number in the root's digits
      have t1 : ∀ k : Nat,h + 149 = -(k : Int) → m * 2 ^ more = rval F32 x * 2 ^ 149 * (2 ^ k * 2 ^ k) := fun k hk => by
        refine Nat.eq_of_mul_eq_mul_right (Nat.two_pow_pos (i + 1074).toNat) ?_
        rw [Nat.mul_right_comm,v,Nat.mul_assoc,Nat.mul_comm TB,tb_add (a := more + 925) rfl,Nat.mul_assoc,Nat.mul_assoc,← Nat.pow_add,← Nat.pow_add,← Nat.pow_add]
        congr 2; omega
      have t2 : ∀ k : Nat,h + 149 = (k : Int) → m * 2 ^ more * (2 ^ k * 2 ^ k) = rval F32 x * 2 ^ 149 := fun k hk => by
        refine Nat.eq_of_mul_eq_mul_right (Nat.two_pow_pos (i + 1074).toNat) ?_
        rw [Nat.mul_right_comm,Nat.mul_right_comm m,v,Nat.mul_assoc,Nat.mul_assoc,Nat.mul_assoc,← Nat.pow_add,← Nat.pow_add,← Nat.pow_add,Nat.mul_comm TB,tb_add (a := more + (k + k) + 925) rfl]
        congr 2; omega
      have ups : ∀ r,rval F32 x * 2 ^ 149 ≤ rval F32 r * rval F32 r → Q * 2 ^ (h - 1 + 1074).toNat ≤ rval F32 r * TB := fun r g => by
        have := st.up (e := h) (r := r) (t := TBn) (by rw [tbn]; omega) (fun k hk => ?_) (fun k hk => ?_)
        · rw [show (((TBn : Nat) : Int) + h + 148).toNat = (h - 1 + 1074).toNat by rw [tbn]; omega] at this
          exact this
        · show m * 2 ^ more ≤ rval F32 r * 2 ^ k * (rval F32 r * 2 ^ k)
          rw [t1 k hk,Nat.mul_mul_mul_comm (rval F32 r)]
          exact Nat.mul_le_mul_right _ g
        · have h3 : m * 2 ^ more * (2 ^ k * 2 ^ k) ≤ rval F32 r * rval F32 r := by rw [t2 k hk]; exact g
          refine ⟨?_,fun c hc => ?_⟩
          · refine sq_le.1 (Nat.le_trans ?_ h3)
            rw [Nat.mul_mul_mul_comm W]
            exact Nat.mul_le_mul_right _ W1
          · show m * 2 ^ more ≤ c * c
            rw [hc,Nat.mul_mul_mul_comm c] at h3
            exact Nat.le_of_mul_le_mul_right h3 (Nat.mul_pos (Nat.two_pow_pos _) (Nat.two_pow_pos _))
      have dns : ∀ r,rval F32 r * rval F32 r ≤ rval F32 x * 2 ^ 149 → rval F32 r * TB ≤ Q * 2 ^ (h - 1 + 1074).toNat := fun r g => by
        have := st.dn (e := h) (r := r) (t := TBn) (by rw [tbn]; omega) (fun k hk => ?_) (fun k hk => ?_)
        · rw [show (((TBn : Nat) : Int) + h + 148).toNat = (h - 1 + 1074).toNat by rw [tbn]; omega] at this
          exact this
        · show rval F32 r * 2 ^ k * (rval F32 r * 2 ^ k) ≤ m * 2 ^ more
          rw [t1 k hk,Nat.mul_mul_mul_comm (rval F32 r)]
          exact Nat.mul_le_mul_right _ g
        · have h3 : rval F32 r * rval F32 r ≤ m * 2 ^ more * (2 ^ k * 2 ^ k) := by rw [t2 k hk]; exact g
          intro c hc
          show c * c ≤ m * 2 ^ more
          rw [hc,Nat.mul_mul_mul_comm c] at h3
          exact Nat.le_of_mul_le_mul_right h3 (Nat.mul_pos (Nat.two_pow_pos _) (Nat.two_pow_pos _))
      have ge64 : ∀ r,r < 2139095040 → rval F32 x * 2 ^ 149 ≤ rval F32 r * rval F32 r → ∃ c,c < 9218868437227405312 ∧ F64.nearest false Q (h - 1) = c ∧ rval F64 c ≤ rval F32 r * TB := fun r hr g => by
        obtain ⟨q,hq,hv⟩ := rung64 r hr
        obtain ⟨c,hc,ec⟩ := nearest_le F64 false Q (h - 1) q (by rw [D_inf]; omega) (by
          rw [D_lp,show h - 1 - -1074 = h - 1 + 1074 by omega,show (-1074 - (h - 1)).toNat = 0 by omega,Nat.pow_zero,Nat.mul_one,hv]
          exact ups r g)
        refine ⟨c,by omega,ec,?_⟩
        rw [← hv]
        rcases Nat.lt_or_eq_of_le hc with h5 | h5
        · exact Nat.le_of_lt (rval_lt _ h5)
        · rw [h5]; exact Nat.le_refl _
      obtain ⟨c,hc,ec,_⟩ := ge64 2139095039 (by decide) (by
        have h5 : rval F32 x ≤ rval F32 2139095039 := rv_le (by omega)
        refine Nat.mul_le_mul h5 ?_
        decide +kernel)
      refine ⟨c,hc,by rw [hs2,ec],fun r hr => ⟨fun g => ?_,fun g => ?_⟩⟩
      · obtain ⟨c',_,ec',h5⟩ := ge64 r hr g
        rw [ec] at ec'
        rw [ec']; exact h5
      · obtain ⟨q,hq,hv⟩ := rung64 r hr
        obtain ⟨c',hc',ec'⟩ := nearest_ge F64 false Q (h - 1) q (by rw [D_inf]; omega) (by
          rw [D_lp,show h - 1 - -1074 = h - 1 + 1074 by omega,show (-1074 - (h - 1)).toNat = 0 by omega,Nat.pow_zero,Nat.mul_one,hv]
          exact dns r g)
        rw [ec] at ec'
        rw [← hv]
        have h6 : q ≤ c := by rw [show c = c' from ec']; exact hc'
        rcases Nat.lt_or_eq_of_le h6 with h5 | h5
        · exact Nat.le_of_lt (rval_lt _ h5)
        · rw [h5]; exact Nat.le_refl _
  obtain ⟨q1,hq1,es,hr1⟩ := key
  rw [es]
  obtain ⟨m1,i1,e1,hi1,v1⟩ := read64 hq1
  have hn : narrow q1 = F32.nearest false m1 i1 := by
    unfold narrow
    rw [show FloatKind.f64.decode q1 = .number false m1 i1 from e1]
    rfl
  have up32 : ∀ r,rval F64 q1 ≤ rval F32 r * TB → m1 * 2 ^ (i1 - F32.leastPlace).toNat ≤ rval F32 r * 2 ^ (F32.leastPlace - i1).toNat := fun r g => by
    rw [F_lp,show i1 - -149 = i1 + 149 by omega]
    rw [← v1] at g
    by_cases hp : -149 ≤ i1
    · rw [show (-149 - i1).toNat = 0 by omega,Nat.pow_zero,Nat.mul_one]
      refine Nat.le_of_mul_le_mul_right (c := TB) ?_ tb_pos
      rw [Nat.mul_assoc,tb_add (a := (i1 + 1074).toNat) (by omega)]; exact g
    · rw [show (i1 + 149).toNat = 0 by omega,Nat.pow_zero,Nat.mul_one]
      refine Nat.le_of_mul_le_mul_right (c := 2 ^ (i1 + 1074).toNat) ?_ (Nat.two_pow_pos _)
      rw [Nat.mul_assoc,tb_eq (by omega)]; exact g
  have dn32 : ∀ r,rval F32 r * TB ≤ rval F64 q1 → rval F32 r * 2 ^ (F32.leastPlace - i1).toNat ≤ m1 * 2 ^ (i1 - F32.leastPlace).toNat := fun r g => by
    rw [F_lp,show i1 - -149 = i1 + 149 by omega]
    rw [← v1] at g
    by_cases hp : -149 ≤ i1
    · rw [show (-149 - i1).toNat = 0 by omega,Nat.pow_zero,Nat.mul_one]
      refine Nat.le_of_mul_le_mul_right (c := TB) ?_ tb_pos
      rw [Nat.mul_assoc,tb_add (a := (i1 + 1074).toNat) (by omega)]; exact g
    · rw [show (i1 + 149).toNat = 0 by omega,Nat.pow_zero,Nat.mul_one]
      refine Nat.le_of_mul_le_mul_right (c := 2 ^ (i1 + 1074).toNat) ?_ (Nat.two_pow_pos _)
      rw [Nat.mul_assoc,tb_eq (by omega)]; exact g
  obtain ⟨q,hq,eq⟩ := nearest_le F32 false m1 i1 2139095039 (by rw [F_inf]; decide) (up32 _ ((hr1 _ (by decide)).1 (by
    have h5 : rval F32 x ≤ rval F32 2139095039 := rv_le (by omega)
    refine Nat.mul_le_mul h5 ?_
    decide +kernel)))
  have en : narrow q1 = q := by rw [hn,eq]; rfl
  refine ⟨q,by omega,?_,en,fun r hr => ⟨fun g => ?_,fun g => ?_⟩⟩
  · unfold narrowOk
    rw [show FloatKind.f64.decode q1 = .number false m1 i1 from e1,en]
    obtain ⟨s',m',i',e',_⟩ := read_sv (a := q) (by unfold Fi; omega)
    rw [show FloatKind.f32.decode q = .number s' m' i' from e']
    rfl
  · obtain ⟨q',hq',eq'⟩ := nearest_le F32 false m1 i1 r (by rw [F_inf]; omega) (up32 r ((hr1 r hr).1 g))
    have : q = q' := eq.symm.trans eq'
    omega
  · obtain ⟨q',hq',eq'⟩ := nearest_ge F32 false m1 i1 r (by rw [F_inf]; omega) (dn32 r ((hr1 r hr).2 g))
    have : q = q' := eq.symm.trans eq'
    omega
end Go.Ab
