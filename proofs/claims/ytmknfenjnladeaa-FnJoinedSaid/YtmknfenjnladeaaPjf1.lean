/- The numbers of the law of flues. -/
import Derived.Test.YtmknfenjnladeaaPje1
import Derived.Test.YtmknfenjnladeaaPjn1
namespace Go.Proofs.Ytmknfenjnladeaa
open Go.Ab Ieee
set_option maxRecDepth 100000

theorem hX_all : ∀ i : Fin 32, sv (fdiv .f32 (ofInt .f32 ((1 + i.val : Nat) : Int)) 1082130432) = ((4096 * (1 + i.val) : Nat) : Int) * 2 ^ 135 := by decide +kernel
theorem wX_all : ∀ i : Fin 16, sv (fdiv .f32 (ofInt .f32 ((1 + i.val : Nat) : Int)) 1098907648) = ((1024 * (1 + i.val) : Nat) : Int) * 2 ^ 135 := by decide +kernel
theorem dX_all : ∀ i : Fin 9, sv (fdiv .f32 (ofInt .f32 ((i.val : Nat) : Int)) 1090519040) = ((2048 * i.val : Nat) : Int) * 2 ^ 135 := by decide +kernel
theorem oX_all : ∀ i : Fin 240, ofInt .f32 ((i.val : Int) - 30) % 2147483648 < 2139095040 ∧ ofInt .f32 ((i.val : Int) - 30) < 4294967296 ∧ sv (ofInt .f32 ((i.val : Int) - 30)) = ((i.val : Int) - 30) * 2 ^ 149 := by decide +kernel
/-- a whole number of degrees, 30 more -/
noncomputable def oI (i : Nat) : Nat := ofInt .f32 ((i : Int) - 30)
theorem oX {i : Nat} (h : i < 240) : X (((i : Int) - 30) * 16384) (oI i) := by
  have a := oX_all ⟨i, h⟩
  refine ⟨a.1, a.2.1, ?_⟩
  have e : sv (oI i) = ((i : Int) - 30) * 2 ^ 149 := a.2.2
  rw [e, Int.mul_assoc]; rfl
theorem tX {i : Nat} (h : i < 300) : X (((i : Int) - 10) * 16384) (tD i) := by
  have a := tD_all ⟨i, h⟩
  refine ⟨a.1, a.2.1, ?_⟩
  have e : sv (tD i) = ((i : Int) - 10) * 2 ^ 149 := a.2.2
  rw [e, Int.mul_assoc]; rfl
theorem X273 : X (273 * 16384) 1133019136 := ⟨by unfold Fi; decide, by decide, by decide +kernel⟩
/-- a heat, 273 more -/
theorem kelvin {T : Nat} {t : Int} (h : X (t * 16384) T) (h0 : -20 ≤ t) (h1 : t ≤ 489) : X ((((t + 273).toNat : Nat) : Int) * 16384) (fadd .f32 T 1133019136) := by
  have e : (((t + 273).toNat : Nat) : Int) * 16384 = t * 16384 + 273 * 16384 := by rw [Int.toNat_of_nonneg (by omega)]; omega
  rw [e]
  exact h.add X273 (by omega) (by omega)
/-- how dense air is at some degrees -/
structure Den (t : Int) (a : Nat) : Prop where
  fi : Fi a
  lt : a < 4294967296
  up : sv a ≤ Qd (t + 273).toNat + 2 ^ 127
  dn : (Qd (t + 273).toNat : Int) ≤ sv a + 2 ^ 127
theorem den {T : Nat} {t : Int} (h : X (t * 16384) T) (h0 : -20 ≤ t) (h1 : t ≤ 489) : Den t (r170 T) := by
  obtain ⟨a, b, c, d⟩ := dense_ok (kelvin h h0 h1) (by omega) (by omega)
  exact ⟨a, b, c, d⟩
/-- a draft: heats of so many degrees, a height of so many quarters -/
structure Drf (i : Nat) (o t : Int) (x : Nat) : Prop where
  fi : Fi x
  lt : x < 4294967296
  up : sv x * 2 ^ 14 ≤ (39936 * (1 + i : Nat) : Int) * ((Qd (o + 273).toNat : Int) - Qd (t + 273).toNat) + 2 ^ 151
  dn : (39936 * (1 + i : Nat) : Int) * ((Qd (o + 273).toNat : Int) - Qd (t + 273).toNat) ≤ sv x * 2 ^ 14 + 2 ^ 151
theorem hX {i : Nat} (h : i < 32) : X ((4096 * (1 + i) : Nat) : Int) (hD i) := by
  have a := hX_all ⟨i, h⟩
  have b := (hD_all ⟨i, h⟩).1
  refine ⟨?_, ?_, a⟩
  · show hD i % 2147483648 < 2139095040
    have : hD i < 2139095040 := b
    omega
  · have : hD i < 2139095040 := b
    omega
theorem wX {i : Nat} (h : i < 16) : X ((1024 * (1 + i) : Nat) : Int) (wD i) := by
  have a := wX_all ⟨i, h⟩
  have b := (wD_all ⟨i, h⟩).1
  have c : wD i < 2139095040 := b
  exact ⟨by unfold Fi; omega, by omega, a⟩
theorem dX {i : Nat} (h : i < 9) : X ((2048 * i : Nat) : Int) (dD i) := by
  have a := dX_all ⟨i, h⟩
  have b := dD_all ⟨i, h⟩
  have c : dD i ≤ 1065353216 := b
  exact ⟨by unfold Fi; omega, by omega, a⟩
theorem X975 : X 159744 1092354048 := ⟨by unfold Fi; decide, by decide, by decide +kernel⟩
theorem drf {i : Nat} (hi : i < 32) {o t : Int} {O T W D : Nat} {e : Int} (hO : X (o * 16384) O) (hT : X (t * 16384) T) (o0 : -20 ≤ o) (o1 : o ≤ 489) (t0 : -20 ≤ t) (t1 : t ≤ 489) : Drf i o t (r159 (hD i) W T D e O) := by
  have a := den hO o0 o1
  have b := den hT t0 t1
  have q := Qd_hi (u := (o + 273).toNat) (by omega) (by omega)
  have q' := Qd_hi (u := (t + 273).toNat) (by omega) (by omega)
  have a1 := a.up; have a2 := a.dn; have b1 := b.up; have b2 := b.dn
  have c := X975.mul (hX hi) (k := ((39936 * (1 + i) : Nat) : Int)) (by omega) (by omega) (by omega)
  show Drf i o t (fmul .f32 (fmul .f32 1092354048 (hD i)) (fsub .f32 (r170 O) (r170 T)))
  have d := diff_err a.fi b.fi a1 a2 b1 b2 (by omega) (by omega) (by omega) (by omega)
  have x := draft_err (C := ((39936 * (1 + i) : Nat) : Int)) c.fi d.1 c.sv (by omega) (by omega) d.2.1 d.2.2 (by omega) (by omega)
  refine ⟨x.1, x.2.1, ?_, ?_⟩
  · have := x.2.2.1
    rw [show ((39936 * (1 + i : Nat) : Nat) : Int) = 39936 * ((1 + i : Nat) : Int) from Int.natCast_mul _ _] at this
    exact this
  · have := x.2.2.2
    rw [show ((39936 * (1 + i : Nat) : Nat) : Int) = 39936 * ((1 + i : Nat) : Int) from Int.natCast_mul _ _] at this
    exact this
theorem Drf.bound {i : Nat} {o t : Int} {x : Nat} (h : Drf i o t x) (hi : i < 32) (o0 : -20 ≤ o) (o1 : o ≤ 489) (t0 : -20 ≤ t) (t1 : t ≤ 489) : sv x ≤ 2 ^ 156 ∧ -(2 ^ 156) ≤ sv x := by
  have q := Qd_hi (u := (o + 273).toNat) (by omega) (by omega)
  have q' := Qd_hi (u := (t + 273).toNat) (by omega) (by omega)
  have u := h.up
  have d := h.dn
  generalize Qd (o + 273).toNat = A at *
  generalize Qd (t + 273).toNat = B at *
  have k : (39936 * (1 + i : Nat) : Int) * ((A : Int) - B) ≤ 39936 * (1 + i : Nat) * (6 * 2 ^ 147) := Int.mul_le_mul_of_nonneg_left (by omega) (by omega)
  have k' : (39936 * (1 + i : Nat) : Int) * (-(6 * 2 ^ 147)) ≤ 39936 * (1 + i : Nat) * ((A : Int) - B) := Int.mul_le_mul_of_nonneg_left (by omega) (by omega)
  generalize (39936 * (1 + i : Nat) : Int) * ((A : Int) - B) = z at *
  omega
/-- a hotter flue draws more -/
theorem Drf.more {i : Nat} {o t s : Int} {x y : Nat} (h : Drf i o t x) (h' : Drf i o s y) (t0 : -20 ≤ t) (ts : t < s) (s1 : s ≤ 489) : sv x + 2 ^ 138 ≤ sv y := by
  have q := Qd_lt (u := (t + 273).toNat) (v := (s + 273).toNat) (by omega) (by omega) (by omega)
  have u := h.up
  have d := h'.dn
  generalize Qd (o + 273).toNat = A at *
  generalize Qd (t + 273).toNat = B at *
  generalize Qd (s + 273).toNat = B' at *
  have k : (39936 * (1 + i : Nat) : Int) * ((A : Int) - B + 9 * 2 ^ 135) ≤ 39936 * (1 + i : Nat) * ((A : Int) - B') := Int.mul_le_mul_of_nonneg_left (by omega) (by omega)
  rw [Int.mul_add] at k
  generalize (39936 * (1 + i : Nat) : Int) * ((A : Int) - B) = z at *
  generalize (39936 * (1 + i : Nat) : Int) * ((A : Int) - B') = z' at *
  omega
/-- what is hotter than the air draws -/
theorem Drf.pos {i : Nat} {o t : Int} {x : Nat} (h : Drf i o t x) (o0 : -20 ≤ o) (ot : o < t) (t1 : t ≤ 489) : 2 ^ 138 ≤ sv x := by
  have q := Qd_lt (u := (o + 273).toNat) (v := (t + 273).toNat) (by omega) (by omega) (by omega)
  have d := h.dn
  generalize Qd (o + 273).toNat = A at *
  generalize Qd (t + 273).toNat = B at *
  have k : (39936 * (1 + i : Nat) : Int) * (9 * 2 ^ 135) ≤ 39936 * (1 + i : Nat) * ((A : Int) - B) := Int.mul_le_mul_of_nonneg_left (by omega) (by omega)
  generalize (39936 * (1 + i : Nat) : Int) * ((A : Int) - B) = z at *
  omega
theorem Drf.neg {i : Nat} {o t : Int} {x : Nat} (h : Drf i o t x) (t0 : -20 ≤ t) (ot : t < o) (o1 : o ≤ 489) : sv x ≤ -(2 ^ 138) := by
  have q := Qd_lt (u := (t + 273).toNat) (v := (o + 273).toNat) (by omega) (by omega) (by omega)
  have d := h.up
  generalize Qd (o + 273).toNat = A at *
  generalize Qd (t + 273).toNat = B at *
  have k : (39936 * (1 + i : Nat) : Int) * (9 * 2 ^ 135) ≤ 39936 * (1 + i : Nat) * ((B : Int) - A) := Int.mul_le_mul_of_nonneg_left (by omega) (by omega)
  rw [show (39936 * (1 + i : Nat) : Int) * ((B : Int) - A) = -(39936 * (1 + i : Nat) * ((A : Int) - B)) by grind] at k
  generalize (39936 * (1 + i : Nat) : Int) * ((A : Int) - B) = z at *
  omega
/-- resistances -/
theorem X1 : X 16384 1065353216 := ⟨by unfold Fi; decide, by decide, by decide +kernel⟩
theorem X025 : X 4096 1048576000 := ⟨by unfold Fi; decide, by decide, by decide +kernel⟩
theorem res {i j l : Nat} (hi : i < 32) (hj : j < 16) (hl : 1 ≤ l) (hl2 : l < 9) {T : Nat} {e : Int} :
    Fi (r160 (hD i) (wD j) T (dD l) e) ∧ r160 (hD i) (wD j) T (dD l) e < 4294967296 ∧ 2 ^ 149 ≤ sv (r160 (hD i) (wD j) T (dD l) e) ∧ sv (r160 (hD i) (wD j) T (dD l) e) ≤ 2 ^ 165 ∧
      sv (r160 (hD i) (wD j) T (dD l) e) * ((((1 + j) * l : Nat) : Int) * (((1 + j) * l : Nat) : Int)) * 2 ^ 23 ≤ ((17408 + 1024 * i : Nat) : Int) * 2 ^ 149 * (2 ^ 23 + 1) + (((1 + j) * l : Nat) : Int) * (((1 + j) * l : Nat) : Int) * 2 ^ 23 ∧
      ((17408 + 1024 * i : Nat) : Int) * 2 ^ 149 * 2 ^ 23 ≤ sv (r160 (hD i) (wD j) T (dD l) e) * ((((1 + j) * l : Nat) : Int) * (((1 + j) * l : Nat) : Int)) * (2 ^ 23 + 1) + (((1 + j) * l : Nat) : Int) * (((1 + j) * l : Nat) : Int) * 2 ^ 23 := by
  have b1 : (1 + j) * l ≤ 16 * 8 := Nat.mul_le_mul (by omega) (by omega)
  have b2 : 1 * 1 ≤ (1 + j) * l := Nat.mul_le_mul (by omega) hl
  have q := X025.mul (hX hi) (k := ((1024 * (1 + i) : Nat) : Int)) (by omega) (by omega) (by omega)
  have n := X1.add q (by omega) (by omega)
  rw [show (16384 : Int) + ((1024 * (1 + i) : Nat) : Int) = ((17408 + 1024 * i : Nat) : Int) by omega] at n
  have m := (wX hj).mul (dX hl2) (k := ((128 * ((1 + j) * l) : Nat) : Int)) (by
    rw [← Int.natCast_mul]
    have : 1024 * (1 + j) * (2048 * l) = 128 * ((1 + j) * l) * 2 ^ 14 := by grind
    rw [this]; rfl) (by omega) (by omega)
  generalize hM : (1 + j) * l = M at *
  have mm : M * M ≤ 128 * 128 := Nat.mul_le_mul (by omega) (by omega)
  have m2 := m.mul m (k := (M : Int) * (M : Int)) (by
    rw [← Int.natCast_mul, ← Int.natCast_mul]
    have : 128 * M * (128 * M) = M * M * 2 ^ 14 := by grind
    rw [this]; rfl) (by rw [← Int.natCast_mul]; omega) (by rw [← Int.natCast_mul]; omega)
  exact resist_err (n := ((17408 + 1024 * i : Nat) : Int)) (m := (M : Int)) n m2 (by omega) (by omega) (by omega) (by omega)
end Go.Proofs.Ytmknfenjnladeaa

namespace Go.Proofs.Ytmknfenjnladeaa
open Go.Ab Ieee
set_option maxRecDepth 100000

/-- a wind that is drawn -/
noncomputable def wnD (i : Nat) : Nat := fdiv .f32 (ofInt .f32 ((i : Int) - 6)) 1073741824
theorem wn_all : ∀ i : Fin 17, fdiv .f32 (ofInt .f32 ((i.val : Int) - 6)) 1073741824 % 2147483648 < 2139095040 ∧ fdiv .f32 (ofInt .f32 ((i.val : Int) - 6)) 1073741824 < 4294967296 ∧ -(5 * 2 ^ 149) ≤ sv (fdiv .f32 (ofInt .f32 ((i.val : Int) - 6)) 1073741824) ∧ sv (fdiv .f32 (ofInt .f32 ((i.val : Int) - 6)) 1073741824) ≤ 5 * 2 ^ 149 := by decide +kernel
theorem wn_ok {i : Nat} (h : i < 17) : Fi (wnD i) ∧ wnD i < 4294967296 ∧ -(5 * 2 ^ 149) ≤ sv (wnD i) ∧ sv (wnD i) ≤ 5 * 2 ^ 149 := wn_all ⟨i, h⟩
theorem bi_bw {m : Nat} (h : BiOk m) : Bw m := ⟨h.f, h.l, h.lo, h.hi⟩
/-- the negative of a number, exactly -/
theorem neg_ex {m : Nat} (h : Bw m) : Fi (fsub .f32 0 m) ∧ fsub .f32 0 m < 4294967296 ∧ sv (fsub .f32 0 m) = -sv m := by
  have F := FM_200
  have lo := h.lo; have hi := h.hi
  have fr := sub_fr (a := 0) (b := m) fi0 h.f (by rw [sv0]; omega) (by rw [sv0]; omega)
  rw [sv0] at fr
  refine ⟨fr.fi, fr.lt, ?_⟩
  obtain ⟨r, hr, e | e⟩ := sv_cases h.f
  · have x1 := fr.le' r hr (by rw [e]; omega)
    have x2 := fr.ge' r hr (by rw [e]; omega)
    rw [e]; omega
  · have x1 := fr.le r hr (by rw [e]; omega)
    have x2 := fr.ge r hr (by rw [e]; omega)
    rw [e]; omega
theorem qd_rng : (Qd 253 : Int) - Qd 562 ≤ 50 * 2 ^ 143 := by decide +kernel
/-- drafts of flues that are drawn -/
theorem Drf.tight {i : Nat} {o t : Int} {x : Nat} (h : Drf i o t x) (hi : i < 32) (o0 : -20 ≤ o) (o1 : o ≤ 20) (t0 : -10 ≤ t) (t1 : t ≤ 289) : -(61 * 2 ^ 149) ≤ sv x ∧ sv x ≤ 61 * 2 ^ 149 := by
  have q : ∀ u : Nat, 253 ≤ u → u ≤ 562 → Qd u ≤ Qd 253 ∧ Qd 562 ≤ Qd u := by
    intro u h0 h1
    constructor
    · by_cases e : u = 253
      · rw [e]; exact Nat.le_refl _
      · exact Nat.le_trans (Nat.le_add_right _ _) (Qd_lt (Nat.le_refl _) (show 253 < u by omega) (by omega))
    · by_cases e : u = 562
      · rw [e]; exact Nat.le_refl _
      · exact Nat.le_trans (Nat.le_add_right _ _) (Qd_lt h0 (show u < 562 by omega) (by omega))
  have qo := q (o + 273).toNat (by omega) (by omega)
  have qt := q (t + 273).toNat (by omega) (by omega)
  have u := h.up
  have d := h.dn
  have rg := qd_rng
  clear h q
  generalize Qd (o + 273).toNat = A at *
  generalize Qd (t + 273).toNat = B at *
  generalize Qd 253 = M at *
  generalize Qd 562 = N at *
  have k : (39936 * (1 + i : Nat) : Int) * ((A : Int) - B) ≤ 39936 * (1 + i : Nat) * (50 * 2 ^ 143) := Int.mul_le_mul_of_nonneg_left (by omega) (by omega)
  have k' : (39936 * (1 + i : Nat) : Int) * (-(50 * 2 ^ 143)) ≤ 39936 * (1 + i : Nat) * ((A : Int) - B) := Int.mul_le_mul_of_nonneg_left (by omega) (by omega)
  generalize (39936 * (1 + i : Nat) : Int) * ((A : Int) - B) = z at *
  omega
theorem dD0 : dD 0 = 0 := by
  have : fdiv .f32 (ofInt .f32 ((0 : Nat) : Int)) 1090519040 = 0 := by decide +kernel
  exact this
theorem open_d {l : Nat} (h1 : 1 ≤ l) (hl : l < 9) : feq .f32 (dD l) 0 = false := by
  have d := dX hl
  have s := d.sv
  rw [feq_sv d.fi.nn nn0 d.lt (by decide), sv0, s]
  exact decide_eq_false (by omega)
theorem r161_eq {q : Nat} (h : narrowOk (fsqrt .f64 (widen q)) = true) : r161 q = (0, rt q) := by
  unfold r161
  rw [show r165 (widen q) = fsqrt .f64 (widen q) from rfl, h]
  rfl
/-- what goes through a flue, in numbers -/
theorem thr_fl {i j l : Nat} {T O P : Nat} {e : Int} (h1 : 1 ≤ l) (hl : l < 9) (q1 : Fi (fdiv .f32 (fadd .f32 (r159 (hD i) (wD j) T (dD l) e O) P) (r160 (hD i) (wD j) T (dD l) e))) (q2 : fdiv .f32 (fadd .f32 (r159 (hD i) (wD j) T (dD l) e O) P) (r160 (hD i) (wD j) T (dD l) e) < 4294967296) :
    thr (hD i) (wD j) T (dD l) e O P = Go.Ab.fl (fdiv .f32 (fadd .f32 (r159 (hD i) (wD j) T (dD l) e O) P) (r160 (hD i) (wD j) T (dD l) e)) := by
  obtain ⟨f1, f2, f3, f4, _⟩ := Go.Ab.fl_ok q1 q2
  unfold thr r125
  rw [open_d h1 hl]
  generalize fdiv .f32 (fadd .f32 (r159 (hD i) (wD j) T (dD l) e O) P) (r160 (hD i) (wD j) T (dD l) e) = q at *
  unfold Go.Ab.fl
  rw [flt0 q1 q2]
  by_cases g : sv q < 0
  · rw [decide_eq_true g, r161_eq (f3 g)]
    rfl
  · rw [decide_eq_false g, r161_eq (f4 g)]
    rfl
theorem thr_zero {H W T O P : Nat} {e : Int} : thr H W T 0 e O P = 0 := by
  unfold thr r125
  rw [show feq .f32 0 0 = true by rw [feq_sv nn0 nn0 (by decide) (by decide)]; exact decide_eq_true rfl]
  rfl
/-- the least resistance of a flue that is drawn -/
theorem res_min {i j l : Nat} (hi : i < 32) (hj : j < 16) (h1 : 1 ≤ l) (hl : l < 9) {T : Nat} {e : Int} : 2 ^ 149 + 2 ^ 144 ≤ sv (r160 (hD i) (wD j) T (dD l) e) := by
  obtain ⟨_, _, a1, a2, _, a3⟩ := res hi hj h1 hl (T := T) (e := e)
  have b1 : (1 + j) * l ≤ 16 * 8 := Nat.mul_le_mul (by omega) (by omega)
  have mm : (((1 + j) * l : Nat) : Int) * (((1 + j) * l : Nat) : Int) ≤ 128 * 128 := Int.mul_le_mul (by omega) (by omega) (by omega) (by decide)
  have m0 : (0 : Int) ≤ (((1 + j) * l : Nat) : Int) * (((1 + j) * l : Nat) : Int) := Int.mul_nonneg (by omega) (by omega)
  generalize (((1 + j) * l : Nat) : Int) * (((1 + j) * l : Nat) : Int) = M at *
  generalize sv (r160 (hD i) (wD j) T (dD l) e) = R at *
  have k : R * M ≤ R * (128 * 128) := Int.mul_le_mul_of_nonneg_left mm (by omega)
  generalize R * M = z at *
  omega
/-- a flue that is drawn follows its push -/
theorem gd {t : List (List Int)} {q i j k l o : Nat} {e : Int} (hi : i < 32) (hj : j < 16) (hk : k < 300) (hl : l < 9) (ho : o < 41) (hr : t.getD q [] = [(hD i : Int), (wD j : Int), (tD k : Int), (dD l : Int), e]) {P : Nat → Nat}
    (hP : ∀ m, Bw m → Fi (P m) ∧ sv (P m) ≤ 2 ^ 159 ∧ -(2 ^ 159) ≤ sv (P m)) : Gd (fun m => flo t (oI (o + 10)) q (P m)) (fun m => sv (P m)) := by
  have ef : ∀ p, flo t (oI (o + 10)) q p = thr (hD i) (wD j) (tD k) (dD l) e (oI (o + 10)) p := by
    intro p
    unfold flo
    have h0 : fc t q 0 = hD i := by show Int.toNat ((t.getD q []).getD 0 0) = _; rw [hr]; rfl
    have h1 : fc t q 1 = wD j := by show Int.toNat ((t.getD q []).getD 1 0) = _; rw [hr]; rfl
    have h2 : fc t q 2 = tD k := by show Int.toNat ((t.getD q []).getD 2 0) = _; rw [hr]; rfl
    have h3 : fc t q 3 = dD l := by show Int.toNat ((t.getD q []).getD 3 0) = _; rw [hr]; rfl
    have h4 : ic t q 4 = e := by show (t.getD q []).getD 4 0 = _; rw [hr]; rfl
    rw [h0, h1, h2, h3, h4]
  by_cases h0 : l = 0
  · subst h0
    refine .inr fun m hm => ?_
    show Fi (flo t (oI (o + 10)) q (P m)) ∧ flo t (oI (o + 10)) q (P m) < 4294967296 ∧ sv (flo t (oI (o + 10)) q (P m)) = 0
    rw [ef, dD0, thr_zero]
    exact ⟨fi0, by decide, sv0⟩
  · have h1 : 1 ≤ l := by omega
    have hO : X (((o : Int) - 20) * 16384) (oI (o + 10)) := by
      have := oX (i := o + 10) (by omega)
      rw [show (((o + 10 : Nat) : Int) - 30) = (o : Int) - 20 by omega] at this; exact this
    have x := drf hi (W := wD j) (D := dD l) (e := e) hO (tX hk) (by omega) (by omega) (by omega) (by omega)
    have xt := x.tight hi (by omega) (by omega) (by omega) (by omega)
    obtain ⟨r1, r2, r3, r4, _⟩ := res hi hj h1 hl (T := tD k) (e := e)
    refine .inl ⟨sv (r159 (hD i) (wD j) (tD k) (dD l) e (oI (o + 10))), r160 (hD i) (wD j) (tD k) (dD l) e, res_min hi hj h1 hl, xt.1, xt.2, fun m hm => ?_⟩
    obtain ⟨p1, p2, p3⟩ := hP m hm
    have F := FM_200
    have fr := add_fr x.fi p1 (by omega) (by omega)
    have er := fr.err Nat.one_pos (by omega) (by omega)
    have zb : sv (fadd .f32 (r159 (hD i) (wD j) (tD k) (dD l) e (oI (o + 10))) (P m)) ≤ 2 ^ 160 ∧ -(2 ^ 160) ≤ sv (fadd .f32 (r159 (hD i) (wD j) (tD k) (dD l) e (oI (o + 10))) (P m)) := by
      generalize sv (fadd .f32 (r159 (hD i) (wD j) (tD k) (dD l) e (oI (o + 10))) (P m)) = z at *
      generalize sv (r159 (hD i) (wD j) (tD k) (dD l) e (oI (o + 10))) = y at *
      generalize sv (P m) = v at *
      clear fr hP
      omega
    obtain ⟨a1, a2, _⟩ := quot_big fr.fi r1 r3 r4 zb.1 zb.2
    have w := fw x.fi p1 r1 r3 r4 (by omega) (by omega) p2 p3
    show Fw _ _ (flo t (oI (o + 10)) q (P m))
    rw [ef, thr_fl h1 hl a1 a2]
    exact w
/-- a sum over the branches is a sum over all flues -/
theorem sum_brs {F : Nat → Int} {t : List (List Int)} {k : Int} : sumR (fun j => F (fc (brs t k) j 0)) 0 (brs t k).length = sumR (fun q => if ic t q 4 = k then F q else 0) 0 t.length := by
  have key : ∀ (l : List (List Int)) (i : Nat), sumR (fun j => F (Int.toNat ((l.getD (j - i) []).getD 0 0))) i l.length = (l.map fun r => F (Int.toNat (r.getD 0 0))).foldr (· + ·) 0 := by
    intro l
    induction l with
    | nil => intro i; rfl
    | cons a l ih =>
      intro i
      have e := ih (i + 1)
      show F (Int.toNat (((a :: l).getD (i - i) []).getD 0 0)) + sumR _ (i + 1) l.length = F (Int.toNat (a.getD 0 0)) + _
      rw [Nat.sub_self, ← e]
      have cg : ∀ (n s : Nat), i + 1 ≤ s → sumR (fun j => F (Int.toNat (((a :: l).getD (j - i) []).getD 0 0))) s n = sumR (fun j => F (Int.toNat ((l.getD (j - (i + 1)) []).getD 0 0))) s n := by
        intro n
        induction n with
        | zero => intro s _; rfl
        | succ n ihn =>
          intro s hs
          show F (Int.toNat (((a :: l).getD (s - i) []).getD 0 0)) + _ = F (Int.toNat ((l.getD (s - (i + 1)) []).getD 0 0)) + _
          rw [ihn (s + 1) (by omega), show s - i = (s - (i + 1)) + 1 by omega, List.getD_cons_succ]
      rw [cg _ _ (Nat.le_refl _)]
      rfl
  have k0 := key (brs t k) 0
  have e1 : (fun j => F (Int.toNat (((brs t k).getD (j - 0) []).getD 0 0))) = fun j => F (fc (brs t k) j 0) := rfl
  rw [e1] at k0
  rw [k0]
  have g : ∀ (n i : Nat), (((List.range' i n).filterMap (brF t k)).map fun r => F (Int.toNat (r.getD 0 0))).foldr (· + ·) 0 = sumR (fun q => if ic t q 4 = k then F q else 0) i n := by
    intro n
    induction n with
    | zero => intro i; rfl
    | succ n ih =>
      intro i
      rw [List.range'_succ]
      show _ = (if ic t i 4 = k then F i else 0) + sumR _ (i + 1) n
      rw [← ih (i + 1), List.filterMap_cons]
      unfold brF
      by_cases h : ic t i 4 = k
      · rw [if_pos h, if_pos h]
        rfl
      · rw [if_neg h, if_neg h, Int.zero_add]
  unfold brs
  rw [List.range_eq_range', g]
/-- where branches join, for chimneys that are drawn -/
theorem join_drawn {t : List (List Int)} {o wi i : Nat} (hd : DrOk t) (ho : o < 41) (hw : wi < 17) (hi : i < t.length) (ht : ic t i 4 = -1) (h0 : 0 < (brs t (i : Int)).length)
    (h1 : sv (atP t (oI (o + 10)) (wnD wi) i) < 999 * 2 ^ 149) (h2 : -(999 * 2 ^ 149) < sv (atP t (oI (o + 10)) (wnD wi) i)) :
    sumR (fun q => if ic t q 4 = (i : Int) then sv (Go.Proofs.Ytmknfenjnladeaa.fl t (oI (o + 10)) (wnD wi) q) else 0) 0 t.length ≤ sv (Go.Proofs.Ytmknfenjnladeaa.fl t (oI (o + 10)) (wnD wi) i) + 2 ^ 138 ∧
    sv (Go.Proofs.Ytmknfenjnladeaa.fl t (oI (o + 10)) (wnD wi) i) ≤ sumR (fun q => if ic t q 4 = (i : Int) then sv (Go.Proofs.Ytmknfenjnladeaa.fl t (oI (o + 10)) (wnD wi) q) else 0) 0 t.length + 47 * 2 ^ 139 := by
  obtain ⟨tr, htr, hq⟩ := hd.ex
  have n2 := hd.n2
  have bl := brs_len t (i : Int)
  obtain ⟨w1, w2, w3, w4⟩ := wn_ok hw
  generalize hO : oI (o + 10) = O at *
  generalize wnD wi = w at *
  have fact : ∀ q, q < t.length → ∀ P : Nat → Nat, (∀ m, Bw m → Fi (P m) ∧ sv (P m) ≤ 2 ^ 159 ∧ -(2 ^ 159) ≤ sv (P m)) → Gd (fun m => flo t O q (P m)) (fun m => sv (P m)) := by
    intro q hqt P hP
    obtain ⟨a, b, c, d, e, g1, g2, g3, g4, g5, _⟩ := hq q hqt
    rw [← hO]
    exact gd g1 g2 g3 g4 ho g5 hP
  have pn : ∀ m, Bw m → Fi (fsub .f32 0 m) ∧ sv (fsub .f32 0 m) ≤ 2 ^ 159 ∧ -(2 ^ 159) ≤ sv (fsub .f32 0 m) := by
    intro m hm
    obtain ⟨a, _, b⟩ := neg_ex hm
    have := hm.lo; have := hm.hi
    exact ⟨a, by rw [b]; omega, by rw [b]; omega⟩
  have pw : ∀ m, Bw m → Fi (fsub .f32 m w) ∧ sv (fsub .f32 m w) ≤ 2 ^ 159 ∧ -(2 ^ 159) ≤ sv (fsub .f32 m w) := by
    intro m hm
    have F := FM_200
    have m1 := hm.lo; have m2 := hm.hi
    have fr := sub_fr hm.f w1 (by omega) (by omega)
    have er := fr.err Nat.one_pos (by omega) (by omega)
    refine ⟨fr.fi, ?_⟩
    generalize sv (fsub .f32 m w) = z at *
    generalize sv m = y at *
    clear fr fact
    omega
  have br : ∀ j, j < (brs t (i : Int)).length → fc (brs t (i : Int)) j 0 < t.length := by
    intro j hj
    obtain ⟨q, hq1, hq2, _⟩ := brs_get hj
    rw [fc_of hq2]; exact hq1
  have hB : ∀ j, j < (brs t (i : Int)).length → Gd (fun m => flo t O (fc (brs t (i : Int)) j 0) (fsub .f32 0 m)) (fun m => -sv m) := by
    intro j hj
    have g := fact _ (br j hj) _ pn
    rcases g with ⟨d, r, a, b, c, g⟩ | g
    · refine .inl ⟨d, r, a, b, c, fun m hm => ?_⟩
      have q : Fw (d + sv (fsub .f32 0 m)) r (flo t O (fc (brs t (i : Int)) j 0) (fsub .f32 0 m)) := g m hm
      rw [(neg_ex hm).2.2] at q
      exact q
    · exact .inr g
  have hT := fact i hi _ pw
  have hS : ∀ m, Bw m → Fi (sumB t O (i : Int) (fsub .f32 0 m)) ∧ sumB t O (i : Int) (fsub .f32 0 m) < 4294967296 ∧ sv (sumB t O (i : Int) (fsub .f32 0 m)) ≤ sumR (fun j => sv (flo t O (fc (brs t (i : Int)) j 0) (fsub .f32 0 m))) 0 (brs t (i : Int)).length + 2 ^ 138 ∧ sumR (fun j => sv (flo t O (fc (brs t (i : Int)) j 0) (fsub .f32 0 m))) 0 (brs t (i : Int)).length ≤ sv (sumB t O (i : Int) (fsub .f32 0 m)) + 2 ^ 138 := by
    intro m hm
    have b0 : ∀ j, j < (brs t (i : Int)).length → Fi (flo t O (fc (brs t (i : Int)) j 0) (fsub .f32 0 m)) ∧ flo t O (fc (brs t (i : Int)) j 0) (fsub .f32 0 m) < 4294967296 ∧ ((sv (flo t O (fc (brs t (i : Int)) j 0) (fsub .f32 0 m))).natAbs : Int) ≤ 35 * 2 ^ 149 := by
      intro j hj
      have g := hB j hj
      have lo := hm.lo; have hh := hm.hi
      exact ⟨(g.fi hm).1, (g.fi hm).2, g.bound hm (by omega)⟩
    obtain ⟨c1, c2, c3⟩ := b0 0 h0
    have r := fsum (F := fun j => flo t O (fc (brs t (i : Int)) j 0) (fsub .f32 0 m)) ((brs t (i : Int)).length - 1) 1 (flo t O (fc (brs t (i : Int)) 0 0) (fsub .f32 0 m)) 1 (fun j q1 q2 => by
      have := b0 j (by omega)
      exact ⟨this.1, by omega⟩) c1 c2 (by omega) (by omega)
    obtain ⟨r1, r2, r3, r4⟩ := r
    obtain ⟨n, hn⟩ : ∃ n, (brs t (i : Int)).length = n + 1 := ⟨(brs t (i : Int)).length - 1, by omega⟩
    have e : sumR (fun j => sv (flo t O (fc (brs t (i : Int)) j 0) (fsub .f32 0 m))) 0 (brs t (i : Int)).length = sv (flo t O (fc (brs t (i : Int)) 0 0) (fsub .f32 0 m)) + sumR (fun j => sv (flo t O (fc (brs t (i : Int)) j 0) (fsub .f32 0 m))) 1 ((brs t (i : Int)).length - 1) := by
      rw [hn]; rfl
    rw [e]
    have cn : (((brs t (i : Int)).length - 1 : Nat) : Int) * 2 ^ 135 ≤ 2 ^ 138 := by omega
    refine ⟨r1, r2, ?_, ?_⟩
    · show sv (foldN _ _ _ _) ≤ _
      generalize sumR (fun j => sv (flo t O (fc (brs t (i : Int)) j 0) (fsub .f32 0 m))) 1 ((brs t (i : Int)).length - 1) = y at *
      omega
    · show _ ≤ sv (foldN _ _ _ _) + _
      generalize sumR (fun j => sv (flo t O (fc (brs t (i : Int)) j 0) (fsub .f32 0 m))) 1 ((brs t (i : Int)).length - 1) = y at *
      omega
  have eh : atP t O w i = (foldN (fun _ => stp fun m => fgt .f32 (sumB t O (i : Int) (fsub .f32 0 m)) (flo t O i (fsub .f32 m w))) 40 0 (3296329728, 1148846080)).2 := by
    unfold atP
    rw [if_neg (by omega)]
    rfl
  obtain ⟨bh, k1, k2⟩ := join (b := (brs t (i : Int)).length) (B := fun j m => flo t O (fc (brs t (i : Int)) j 0) (fsub .f32 0 m)) (T := fun m => flo t O i (fsub .f32 m w)) (S := fun m => sumB t O (i : Int) (fsub .f32 0 m)) (by omega) w1 w3 w4 hB hT hS eh.symm h1 h2
  have ef : Go.Proofs.Ytmknfenjnladeaa.fl t O w i = flo t O i (fsub .f32 (atP t O w i) w) := by
    unfold Go.Proofs.Ytmknfenjnladeaa.fl
    rw [if_pos ht]
  have es : sumR (fun q => if ic t q 4 = (i : Int) then sv (Go.Proofs.Ytmknfenjnladeaa.fl t O w q) else 0) 0 t.length = sumR (fun j => sv (flo t O (fc (brs t (i : Int)) j 0) (fsub .f32 0 (atP t O w i)))) 0 (brs t (i : Int)).length := by
    rw [sum_brs (F := fun q => sv (flo t O q (fsub .f32 0 (atP t O w i))))]
    congr 1
    funext q
    by_cases h : ic t q 4 = (i : Int)
    · rw [if_pos h, if_pos h]
      unfold Go.Proofs.Ytmknfenjnladeaa.fl
      rw [if_neg (by rw [h]; omega), h]
      rfl
    · rw [if_neg h, if_neg h]
  rw [ef, es]
  exact ⟨k1, k2⟩
end Go.Proofs.Ytmknfenjnladeaa

namespace Go.Proofs.Ytmknfenjnladeaa
open Go.Ab Ieee
set_option maxRecDepth 100000

theorem c02 : Fi 1017370378 ∧ 0 ≤ sv 1017370378 ∧ sv 1017370378 ≤ 2 ^ 149 := by unfold Fi; decide +kernel
theorem c05w : Fi 1028443341 ∧ sv 1028443341 = ((rval F32 1028443341 : Nat) : Int) ∧ 51 * 2 ^ 139 ≤ sv 1028443341 ∧ sv 1028443341 ≤ 2 ^ 149 := by unfold Fi; decide +kernel
theorem c999 : sv 1148829696 = 999 * 2 ^ 149 := by decide +kernel
theorem cm999 : sv 3296313344 = -(999 * 2 ^ 149) := by decide +kernel
theorem near5 {a z A : Nat} (ha : Fi a) (hz : Fi z) (zb : ((sv z).natAbs : Int) ≤ 2 ^ 157) (h1 : sv a ≤ sv z + 2 ^ 140) (h2 : sv z ≤ sv a + 48 * 2 ^ 139) (fA : Fi A) (A0 : 0 ≤ sv A) (A1 : sv A ≤ 2 ^ 158) :
    (flt .f32 (ab (fsub .f32 a z)) (fadd .f32 (fmul .f32 1017370378 A) 1028443341) || feq .f32 (ab (fsub .f32 a z)) (fadd .f32 (fmul .f32 1017370378 A) 1028443341)) = true := by
  have F := FM_200
  obtain ⟨k1, k2, k3, k4⟩ := c05w
  obtain ⟨l1, l2, l3⟩ := c02
  have fr := sub_fr (a := a) (b := z) ha hz (by omega) (by omega)
  have e := fr.err Nat.one_pos (by omega) (by omega)
  have hd : (sv (fsub .f32 a z)).natAbs ≤ 50 * 2 ^ 139 := by
    generalize sv (fsub .f32 a z) = s at *
    clear fr k2
    omega
  have had := ab_ok fr.fi fr.lt (Nat.le_trans hd (by decide))
  have pm : 0 ≤ sv 1017370378 * sv A := Int.mul_nonneg l2 A0
  have pmb : sv 1017370378 * sv A ≤ 2 ^ 149 * 2 ^ 158 := Int.mul_le_mul l3 A1 A0 (by decide)
  obtain ⟨m1, m2, m3, _, m4, _⟩ := mul_err l1 fA (by clear k2; omega) (by clear k2; omega)
  have t0 := m3 pm
  have tb : sv (fmul .f32 1017370378 A) ≤ 2 ^ 160 := by
    rw [Int.natAbs_of_nonneg pm] at m4
    generalize sv 1017370378 * sv A = n at *
    generalize sv (fmul .f32 1017370378 A) = s at *
    clear k2 fr
    omega
  generalize fmul .f32 1017370378 A = t at *
  obtain ⟨W, hW⟩ : ∃ W, sv 1028443341 = W := ⟨_, rfl⟩
  rw [hW] at k2 k3 k4
  clear pm pmb m3 m4
  have fb := add_fr (a := t) (b := 1028443341) m1 k1 (by rw [hW]; omega) (by rw [hW]; omega)
  rw [hW] at fb
  have ge := fb.ge 1028443341 (by decide) (by rw [← k2]; omega)
  rw [← k2] at ge
  rw [fle_sv had.1.nn fb.fi.nn had.2.1 fb.lt]
  refine decide_eq_true ?_
  rw [had.2.2]
  have : (51 * 2 ^ 139 : Int) ≤ sv (fadd .f32 t 1028443341) := Int.le_trans k3 ge
  generalize sv (fadd .f32 t 1028443341) = s at *
  omega

/-! ### lists of indices -/
theorem has64 {l : List (List Int)} {x : Int} (hl : l.length ≤ 1000) : r64b x l = (0, !allN l.length fun j => !(ic l j 0 == x)) := by
  have key : r64l0b (1000 + l.length) x 0 l = cond (allN l.length fun j => !(ic l j 0 == x)) 1 0 := by
    refine all_loop (n := l.length) (p := fun j => !(ic l j 0 == x)) (yes := 1) (no := 0) (G := fun m i => r64l0b m x i l) ?_ ?_ (by omega)
    · intro m
      show b64l0b (r64l0b m) _ _ _ = _
      unfold b64l0b
      rw [dlt_f (Nat.lt_irrefl _)]; rfl
    · intro m i hi
      show b64l0b (r64l0b m) _ _ _ = _
      unfold b64l0b
      rw [dlt_t hi, dle0, Int.toNat_natCast, blt_t hi, wrap_succ (by omega)]
      show cond (ic l i 0 == x) 0 _ = _
      cases ic l i 0 == x <;> rfl
  unfold r64b
  rw [key]
  cases allN l.length fun j => !(ic l j 0 == x) <;> rfl
theorem has_back {F : List (List Int)} (hF : F.length ≤ 6) {i : Nat} (hi : i < F.length) : r15b (i : Int) (back F) = (0, flt .f32 (fc F i 0) 0) := by
  have bl := back_len F
  have e : (!allN (back F).length fun j => !(ic (back F) j 0 == (i : Int))) = flt .f32 (fc F i 0) 0 := by
    cases g : flt .f32 (fc F i 0) 0 with
    | true =>
      have m : [(i : Int)] ∈ back F := by
        unfold back
        refine List.mem_filterMap.2 ⟨i, List.mem_range.2 hi, ?_⟩
        unfold bkF
        rw [if_pos g]
      obtain ⟨j, hj, e⟩ := rows_getD m
      cases h : allN (back F).length fun j => !(ic (back F) j 0 == (i : Int)) with
      | false => rfl
      | true =>
        have := allN_true.1 h j hj
        have e2 : ic (back F) j 0 = (i : Int) := by show ((back F).getD j []).getD 0 0 = _; rw [e]; rfl
        rw [e2, beq_self_eq_true] at this
        cases this
    | false =>
      have h : (allN (back F).length fun j => !(ic (back F) j 0 == (i : Int))) = true := allN_true.2 fun j hj => by
        have m : (back F).getD j [] ∈ back F := by
          rw [List.getD_eq_getElem?_getD, List.getElem?_eq_getElem hj]
          exact List.getElem_mem hj
        have m2 := m
        unfold back at m2
        obtain ⟨q, hq, e⟩ := List.mem_filterMap.1 m2
        unfold bkF at e
        by_cases g2 : flt .f32 (fc F q 0) 0 = true
        · rw [if_pos g2] at e
          have e2 : (back F).getD j [] = [(q : Int)] := (Option.some.inj e).symm
          have e3 : ic (back F) j 0 = (q : Int) := by show ((back F).getD j []).getD 0 0 = _; rw [e2]; rfl
          rw [e3]
          have : q ≠ i := fun e4 => by rw [e4, g] at g2; cases g2
          rw [show ((q : Int) == (i : Int)) = false from beq_eq_false_iff_ne.2 (by omega)]
          rfl
        · rw [if_neg g2] at e; cases e
      rw [h]; rfl
  unfold r15b
  rw [has64 (by omega), e]
  rfl
/-! ### the inner loop -/
theorem sum_loop {t F Bk : List (List Int)} {i : Nat} (hF : F.length = t.length) (n5 : t.length ≤ 5) (hf : ∀ q, q < t.length → Fi (fc F q 0) ∧ fc F q 0 < 4294967296 ∧ ((sv (fc F q 0)).natAbs : Int) ≤ 36 * 2 ^ 149) (x0 x1 : Nat) (x2 : Int) (x4 : Nat) :
    ∀ (k q fuel : Nat) (s a : Nat) (c : Nat), q + k = t.length → k < fuel → Fi s → s < 4294967296 → ((sv s).natAbs : Int) ≤ (q : Int) * (37 * 2 ^ 149) → Fi a → a < 4294967296 → 0 ≤ sv a → sv a ≤ (q : Int) * (37 * 2 ^ 149) → c ≤ q →
      ∃ S A C : Nat, r3l1b fuel x0 x1 x2 (i : Int) x4 s a (c : Int) (q : Int) t F Bk = (0, S, A, (C : Int)) ∧ Fi S ∧ S < 4294967296 ∧ sv S ≤ sv s + sumR (fun q => if ic t q 4 = (i : Int) then sv (fc F q 0) else 0) q k + (k : Int) * 2 ^ 135 ∧ sv s + sumR (fun q => if ic t q 4 = (i : Int) then sv (fc F q 0) else 0) q k ≤ sv S + (k : Int) * 2 ^ 135 ∧
        Fi A ∧ A < 4294967296 ∧ 0 ≤ sv A ∧ sv A ≤ 2 ^ 158 ∧ c ≤ C ∧ (C = c → ∀ j, q ≤ j → j < t.length → ic t j 4 ≠ (i : Int)) ∧ ((∀ j, q ≤ j → j < t.length → ic t j 4 ≠ (i : Int)) → C = c) := by
  intro k
  induction k with
  | zero =>
    intro q fuel s a c hk hfu s1 s2 s3 a1 a2 a3 a4 hc
    obtain ⟨m, rfl⟩ : ∃ m, fuel = m + 1 := ⟨fuel - 1, by omega⟩
    refine ⟨s, a, c, ?_, s1, s2, ?_, ?_, a1, a2, a3, ?_, Nat.le_refl _, fun _ j h1 h2 => by omega, fun _ => rfl⟩
    · show b3l1b (r3l1b m) _ _ _ _ _ _ _ _ _ _ _ _ = _
      unfold b3l1b st3l1v57s0
      rw [dlt_f (by omega)]; rfl
    · show sv s ≤ sv s + 0 + ((0 : Nat) : Int) * 2 ^ 135
      omega
    · show sv s + 0 ≤ sv s + ((0 : Nat) : Int) * 2 ^ 135
      omega
    · omega
  | succ k ih =>
    intro q fuel s a c hk hfu s1 s2 s3 a1 a2 a3 a4 hc
    obtain ⟨m, rfl⟩ : ∃ m, fuel = m + 1 := ⟨fuel - 1, by omega⟩
    have hq : q < t.length := by omega
    obtain ⟨f1, f2, f3⟩ := hf q hq
    have e0 : r3l1b (m + 1) x0 x1 x2 (i : Int) x4 s a (c : Int) (q : Int) t F Bk = (if ic t q 4 = (i : Int) then r3l1b m x0 x1 x2 (i : Int) x4 (fadd .f32 s (fc F q 0)) (fadd .f32 a (ab (fc F q 0))) ((c + 1 : Nat) : Int) ((q + 1 : Nat) : Int) t F Bk else r3l1b m x0 x1 x2 (i : Int) x4 s a (c : Int) ((q + 1 : Nat) : Int) t F Bk) := by
      show b3l1b (r3l1b m) _ _ _ _ _ _ _ _ _ _ _ _ = _
      unfold b3l1b st3l1v57s0 st3l1v57s1 st3l1v57s2
      rw [dlt_t hq, dle0, Int.toNat_natCast, blt_t hq, blt_t (show q < F.length by omega), wrap_succ (show q < 9223372036854775807 by omega), wrap_succ (show c < 9223372036854775807 by omega)]
      show cond (ic t q 4 == (i : Int)) _ _ = _
      by_cases g : ic t q 4 = (i : Int)
      · rw [if_pos g, g, beq_self_eq_true]; rfl
      · rw [if_neg g, show (ic t q 4 == (i : Int)) = false from beq_eq_false_iff_ne.2 g]; rfl
    rw [e0]
    by_cases g : ic t q 4 = (i : Int)
    · rw [if_pos g]
      have sb := ab_ok f1 f2 (by
        generalize sv (fc F q 0) = z at *
        clear ih hf e0
        omega)
      obtain ⟨b1, b2, b3, b4⟩ := add_near s1 f1 (by
        generalize sv (fc F q 0) = z at *
        generalize sv s = y at *
        clear ih hf e0
        omega)
      obtain ⟨d1, d2, d3, d4⟩ := add_near a1 sb.1 (by
        rw [sb.2.2]
        generalize sv (fc F q 0) = z at *
        generalize sv a = y at *
        clear ih hf e0
        omega)
      have apos : 0 ≤ sv (fadd .f32 a (ab (fc F q 0))) := by
        have F0 := FM_200
        have fr := add_fr a1 sb.1 (by
          rw [sb.2.2]
          generalize sv (fc F q 0) = z at *
          generalize sv a = y at *
          clear ih hf e0
          omega) (by
          rw [sb.2.2]
          generalize sv (fc F q 0) = z at *
          generalize sv a = y at *
          clear ih hf e0
          omega)
        exact fr.nonneg (by rw [sb.2.2]; omega)
      obtain ⟨S, A, C, r0, r1, r2, r3, r4, r5, r6, r7, r8, r9, r10, r11⟩ := ih (q + 1) m (fadd .f32 s (fc F q 0)) (fadd .f32 a (ab (fc F q 0))) (c + 1) (by omega) (by omega) b1 b2 (by
        generalize sv (fadd .f32 s (fc F q 0)) = w at *
        generalize sv (fc F q 0) = z at *
        generalize sv s = y at *
        clear ih hf e0 d3 d4 apos
        omega) d1 d2 apos (by
        rw [sb.2.2] at d3
        generalize sv (fadd .f32 a (ab (fc F q 0))) = w at *
        generalize sv (fc F q 0) = z at *
        generalize sv a = y at *
        clear ih hf e0 b3 b4
        omega) (by omega)
      refine ⟨S, A, C, r0, r1, r2, ?_, ?_, r5, r6, r7, r8, by omega, fun h => by omega, fun h => absurd g (h q (Nat.le_refl _) hq)⟩
      · show sv S ≤ sv s + ((if ic t q 4 = (i : Int) then sv (fc F q 0) else 0) + sumR _ (q + 1) k) + ((k + 1 : Nat) : Int) * 2 ^ 135
        rw [if_pos g]
        generalize sumR (fun q => if ic t q 4 = (i : Int) then sv (fc F q 0) else 0) (q + 1) k = y at *
        clear ih hf e0
        omega
      · show sv s + ((if ic t q 4 = (i : Int) then sv (fc F q 0) else 0) + sumR _ (q + 1) k) ≤ sv S + ((k + 1 : Nat) : Int) * 2 ^ 135
        rw [if_pos g]
        generalize sumR (fun q => if ic t q 4 = (i : Int) then sv (fc F q 0) else 0) (q + 1) k = y at *
        clear ih hf e0
        omega
    · rw [if_neg g]
      obtain ⟨S, A, C, r0, r1, r2, r3, r4, r5, r6, r7, r8, r9, r10, r11⟩ := ih (q + 1) m s a c (by omega) (by omega) s1 s2 (by
        generalize sv s = y at *
        clear ih hf e0
        omega) a1 a2 a3 (by
        generalize sv a = y at *
        clear ih hf e0
        omega) (by omega)
      refine ⟨S, A, C, r0, r1, r2, ?_, ?_, r5, r6, r7, r8, r9, fun h j h1 h2 => ?_, fun h => r11 fun j h1 h2 => h j (by omega) h2⟩
      · show sv S ≤ sv s + ((if ic t q 4 = (i : Int) then sv (fc F q 0) else 0) + sumR _ (q + 1) k) + ((k + 1 : Nat) : Int) * 2 ^ 135
        rw [if_neg g]
        generalize sumR (fun q => if ic t q 4 = (i : Int) then sv (fc F q 0) else 0) (q + 1) k = y at *
        clear ih hf e0
        omega
      · show sv s + ((if ic t q 4 = (i : Int) then sv (fc F q 0) else 0) + sumR _ (q + 1) k) ≤ sv S + ((k + 1 : Nat) : Int) * 2 ^ 135
        rw [if_neg g]
        generalize sumR (fun q => if ic t q 4 = (i : Int) then sv (fc F q 0) else 0) (q + 1) k = y at *
        clear ih hf e0
        omega
      · by_cases e : j = q
        · rw [e]; exact g
        · exact r10 h j (by omega) h2
theorem no_brs {t : List (List Int)} {k : Int} : (brs t k).length = 0 ↔ ∀ j, j < t.length → ic t j 4 ≠ k := by
  constructor
  · intro h j hj e
    have m : [(j : Int)] ∈ brs t k := by
      unfold brs
      refine List.mem_filterMap.2 ⟨j, List.mem_range.2 hj, ?_⟩
      unfold brF
      rw [if_pos e]
    have := List.eq_nil_of_length_eq_zero h
    rw [this] at m
    cases m
  · intro h
    refine Nat.le_zero.1 (Nat.le_of_not_lt fun g => ?_)
    obtain ⟨q, h1, _, h2⟩ := brs_get (t := t) (k := k) (j := 0) g
    exact h q h1 h2
/-! ### the outer loop -/
theorem push_law {t : List (List Int)} {o w i : Nat} (hc : ChOk t) (hw : WOk o w) (hi : i < t.length) : (ic t i 4 ≠ -1 → r16 (i : Int) o w t = (0, 0, 2)) ∧ (ic t i 4 = -1 → r16 (i : Int) o w t = (0, atP t o w i, 0) ∧ r17 (i : Int) o w t = (0, atP t o w i, 0)) := by
  have n6 := hc.n2
  obtain ⟨c1, c2⟩ := code_ok hc hw
  constructor
  · intro h
    unfold r16
    rw [c2, decide_eq_false (show ¬ ((i : Nat) : Int) < 0 by omega), decide_eq_false (show ¬ ((i : Nat) : Int) ≥ (t.length : Int) by omega), dle0, Int.toNat_natCast, blt_t hi]
    show cond (ic t i 4 != -1) _ _ = _
    rw [show (ic t i 4 != -1) = true from bne_iff_ne.2 h]; rfl
  · intro h
    constructor
    · unfold r16
      rw [c2, atI hc hw hi, decide_eq_false (show ¬ ((i : Nat) : Int) < 0 by omega), decide_eq_false (show ¬ ((i : Nat) : Int) ≥ (t.length : Int) by omega), dle0, Int.toNat_natCast, blt_t hi]
      show cond (ic t i 4 != -1) _ _ = _
      rw [h]; rfl
    · unfold r17
      rw [c1, atS hc hw hi, wrap_i64 (by omega) (by omega)]
      unfold r66
      rw [decide_eq_true (show ((i : Nat) : Int) ≥ 0 by omega), decide_eq_true (show ((i : Nat) : Int) ≤ (t.length : Int) - 1 by omega), Int.toNat_natCast, blt_t hi]
      rw [show (t.getD i []).getD 4 0 = -1 from h]; rfl
theorem fl_b {t : List (List Int)} {o wi : Nat} (hd : DrOk t) (ho : o < 41) (hw : wi < 17) {q : Nat} (hq : q < t.length) : ((sv (Go.Proofs.Ytmknfenjnladeaa.fl t (oI (o + 10)) (wnD wi) q)).natAbs : Int) ≤ 35 * 2 ^ 149 := by
  obtain ⟨tr, htr, hqq⟩ := hd.ex
  obtain ⟨a, b, c, d, e, g1, g2, g3, g4, g5, _⟩ := hqq q hq
  obtain ⟨w1, w2, w3, w4⟩ := wn_ok hw
  have sb : ∀ m, Bw m → Fi (fsub .f32 m (wnD wi)) ∧ sv (fsub .f32 m (wnD wi)) ≤ 1010 * 2 ^ 149 ∧ -(1010 * 2 ^ 149) ≤ sv (fsub .f32 m (wnD wi)) := by
    intro m hm
    have F := FM_200
    have m1 := hm.lo; have m2 := hm.hi
    have fr := sub_fr hm.f w1 (by omega) (by omega)
    have er := fr.err Nat.one_pos (by omega) (by omega)
    refine ⟨fr.fi, ?_⟩
    generalize sv (fsub .f32 m (wnD wi)) = z at *
    generalize sv m = y at *
    clear fr hqq
    omega
  unfold Go.Proofs.Ytmknfenjnladeaa.fl
  split
  · have bw := bi_bw (at_ok t (oI (o + 10)) (wnD wi) q)
    have g := gd g1 g2 g3 g4 ho g5 (P := fun m => fsub .f32 m (wnD wi)) (fun m hm => by
      obtain ⟨x, y, z⟩ := sb m hm
      exact ⟨x, by omega, by omega⟩)
    have := sb _ bw
    exact g.bound bw (by
      show (sv (fsub .f32 (atP t (oI (o + 10)) (wnD wi) q) (wnD wi))).natAbs ≤ _
      omega)
  · have bw := bi_bw (at_ok t (oI (o + 10)) (wnD wi) (ic t q 4).toNat)
    have g := gd g1 g2 g3 g4 ho g5 (P := fun m => fsub .f32 0 m) (fun m hm => by
      obtain ⟨x, _, z⟩ := neg_ex hm
      have := hm.lo; have := hm.hi
      exact ⟨x, by rw [z]; omega, by rw [z]; omega⟩)
    have e := (neg_ex bw).2.2
    have := bw.lo; have := bw.hi
    exact g.bound bw (by
      show (sv (fsub .f32 0 (atP t (oI (o + 10)) (wnD wi) (ic t q 4).toNat))).natAbs ≤ _
      rw [e]; omega)
set_option maxHeartbeats 2000000 in
theorem outer {t : List (List Int)} {o wi : Nat} (hd : DrOk t) (hc : ChOk t) (hw : WOk (oI (o + 10)) (wnD wi)) (ho : o < 41) (hwi : wi < 17) :
    ∀ (k i fuel c : Nat), i + k = t.length → k < fuel → c ≤ i →
      r3l0b fuel (oI (o + 10)) (wnD wi) (c : Int) (i : Int) t (flows t (oI (o + 10)) (wnD wi)) (back (flows t (oI (o + 10)) (wnD wi))) = (0, ((c + ((List.range' i k).filterMap (bkF (flows t (oI (o + 10)) (wnD wi)))).length : Nat) : Int), 0) := by
  have n5 := hd.n2
  have hF := flows_len t (oI (o + 10)) (wnD wi)
  have fls : ∀ q, q < t.length → fc (flows t (oI (o + 10)) (wnD wi)) q 0 = Go.Proofs.Ytmknfenjnladeaa.fl t (oI (o + 10)) (wnD wi) q := fun q hq => flows_get hq
  intro k
  induction k with
  | zero =>
    intro i fuel c hk hfu hci
    obtain ⟨m, rfl⟩ : ∃ m, fuel = m + 1 := ⟨fuel - 1, by omega⟩
    show b3l0b (r3l0b m) _ _ _ _ _ _ _ = _
    unfold b3l0b st3l0v1s0
    rw [dlt_f (by omega)]; rfl
  | succ k ih =>
    intro i fuel c hk hfu hci
    obtain ⟨m, rfl⟩ : ∃ m, fuel = m + 1 := ⟨fuel - 1, by omega⟩
    have hi : i < t.length := by omega
    have hb := has_back (F := flows t (oI (o + 10)) (wnD wi)) (by rw [hF]; omega) (i := i) (by rw [hF]; exact hi)
    have pl := push_law hc hw hi
    have nxt : ∀ c' : Nat, c' ≤ i + 1 → r3l0b m (oI (o + 10)) (wnD wi) (c' : Int) ((i + 1 : Nat) : Int) t (flows t (oI (o + 10)) (wnD wi)) (back (flows t (oI (o + 10)) (wnD wi))) = _ := fun c' hc' => ih (i + 1) m c' (by omega) (by omega) hc'
    -- what stands behind the count
    have s3 : ∀ c' : Nat, c' ≤ i + 1 → st3l0v1s3 (r3l0b m) (oI (o + 10)) (wnD wi) (c : Int) (i : Int) t (flows t (oI (o + 10)) (wnD wi)) (back (flows t (oI (o + 10)) (wnD wi))) (c' : Int) = r3l0b m (oI (o + 10)) (wnD wi) (c' : Int) ((i + 1 : Nat) : Int) t (flows t (oI (o + 10)) (wnD wi)) (back (flows t (oI (o + 10)) (wnD wi))) := by
      intro c' hc'
      clear ih nxt
      unfold st3l0v1s3
      rw [dle0, Int.toNat_natCast, blt_t hi, wrap_succ (show i < 9223372036854775807 by omega)]
      show cond true (cond true (cond (decide (ic t i 4 ≥ 0)) _ _) _) _ = _
      rcases hc.into i hi with h | ⟨h1, h2, h3, h4⟩
      · -- a trunk
        rw [decide_eq_false (show ¬ ic t i 4 ≥ 0 by omega)]
        obtain ⟨e16, e17⟩ := pl.2 h
        show st3l0v1s4 (r3l0b m) (oI (o + 10)) (wnD wi) (c : Int) (i : Int) t (flows t (oI (o + 10)) (wnD wi)) (back (flows t (oI (o + 10)) (wnD wi))) (c' : Int) = _
        unfold st3l0v1s4
        rw [e16, e17]
        simp only
        have bw := bi_bw (at_ok t (oI (o + 10)) (wnD wi) i)
        have fa : feq .f32 (atP t (oI (o + 10)) (wnD wi) i) (atP t (oI (o + 10)) (wnD wi) i) = true := by
          rw [feq_sv bw.f.nn bw.f.nn bw.l bw.l]; exact decide_eq_true rfl
        rw [fa]
        show st3l0v1s5 (r3l0b m) (oI (o + 10)) (wnD wi) (c : Int) (i : Int) t (flows t (oI (o + 10)) (wnD wi)) (back (flows t (oI (o + 10)) (wnD wi))) (c' : Int) (atP t (oI (o + 10)) (wnD wi) i) = _
        unfold st3l0v1s5
        obtain ⟨S, A, C, r0, r1, r2, r3, r4, r5, r6, r7, r8, r9, r10, r11⟩ := sum_loop (t := t) (F := flows t (oI (o + 10)) (wnD wi)) (Bk := back (flows t (oI (o + 10)) (wnD wi))) (i := i) hF n5 (fun q hq => by
          rw [fls q hq]
          have f := Go.Proofs.Ytmknfenjnladeaa.fl_ok hc hw hq
          have b := fl_b hd ho hwi hq
          exact ⟨f.1, f.2, by omega⟩) (oI (o + 10)) (wnD wi) (c' : Int) (atP t (oI (o + 10)) (wnD wi) i) t.length 0 (1000 + (back (flows t (oI (o + 10)) (wnD wi))).length + (flows t (oI (o + 10)) (wnD wi)).length + t.length) 0 0 0 (by omega) (by omega) fi0 (by decide) (by rw [sv0]; decide) fi0 (by decide) (by rw [sv0]; decide) (by rw [sv0]; decide) (Nat.le_refl _)
        have r0' : r3l1b (1000 + (back (flows t (oI (o + 10)) (wnD wi))).length + (flows t (oI (o + 10)) (wnD wi)).length + t.length) (oI (o + 10)) (wnD wi) (c' : Int) (i : Int) (atP t (oI (o + 10)) (wnD wi) i) 0 0 0 0 t (flows t (oI (o + 10)) (wnD wi)) (back (flows t (oI (o + 10)) (wnD wi))) = (0, S, A, (C : Int)) := r0
        rw [r0']
        show st3l0v1s6 (r3l0b m) (oI (o + 10)) (wnD wi) (c : Int) (i : Int) t (flows t (oI (o + 10)) (wnD wi)) (back (flows t (oI (o + 10)) (wnD wi))) (c' : Int) (atP t (oI (o + 10)) (wnD wi) i) S A (C : Int) = _
        unfold st3l0v1s6
        rw [wrap_succ (show i < 9223372036854775807 by omega)]
        by_cases hC : C = 0
        · -- no branches
          have nb := no_brs.2 (fun j hj => r10 hC j (Nat.zero_le _) hj)
          have ha : atP t (oI (o + 10)) (wnD wi) i = 0 := by unfold atP; rw [if_pos nb]
          rw [hC, ha, show feq .f32 0 0 = true by rw [feq_sv nn0 nn0 (by decide) (by decide)]; exact decide_eq_true rfl]
          rfl
        · rw [show (((C : Nat) : Int) == 0) = false from beq_eq_false_iff_ne.2 (by omega), decide_eq_true (show ((C : Nat) : Int) > 0 by omega)]
          simp only [cond_false, cond_true]
          rw [flt_sv bw.f.nn (by unfold Nn; decide) bw.l (by decide), fgt_sv bw.f.nn (by unfold Nn; decide) bw.l (by decide), c999, cm999]
          by_cases g1 : sv (atP t (oI (o + 10)) (wnD wi) i) < 999 * 2 ^ 149
          · by_cases g2 : -(999 * 2 ^ 149) < sv (atP t (oI (o + 10)) (wnD wi) i)
            · rw [decide_eq_true g1, decide_eq_true g2, dle0, Int.toNat_natCast, blt_t (show i < (flows t (oI (o + 10)) (wnD wi)).length by rw [hF]; exact hi)]
              have hb0 : 0 < (brs t (i : Int)).length := by
                refine Nat.pos_of_ne_zero fun g => hC (r11 fun j _ hj => no_brs.1 g j hj)
              obtain ⟨k1, k2⟩ := join_drawn hd ho hwi hi h hb0 g1 g2
              have es : sumR (fun q => if ic t q 4 = (i : Int) then sv (fc (flows t (oI (o + 10)) (wnD wi)) q 0) else 0) 0 t.length = sumR (fun q => if ic t q 4 = (i : Int) then sv (Go.Proofs.Ytmknfenjnladeaa.fl t (oI (o + 10)) (wnD wi) q) else 0) 0 t.length := by
                have cg : ∀ (n s : Nat), s + n ≤ t.length → sumR (fun q => if ic t q 4 = (i : Int) then sv (fc (flows t (oI (o + 10)) (wnD wi)) q 0) else 0) s n = sumR (fun q => if ic t q 4 = (i : Int) then sv (Go.Proofs.Ytmknfenjnladeaa.fl t (oI (o + 10)) (wnD wi) q) else 0) s n := by
                  intro n
                  induction n with
                  | zero => intro s _; rfl
                  | succ n ihn =>
                    intro s hs
                    show (if ic t s 4 = (i : Int) then sv (fc (flows t (oI (o + 10)) (wnD wi)) s 0) else 0) + _ = (if ic t s 4 = (i : Int) then sv (Go.Proofs.Ytmknfenjnladeaa.fl t (oI (o + 10)) (wnD wi) s) else 0) + _
                    rw [ihn (s + 1) (by omega), fls s (by omega)]
                exact cg _ _ (by omega)
              rw [es, sv0] at r3 r4
              have zb := fl_b hd ho hwi hi
              have fz := Go.Proofs.Ytmknfenjnladeaa.fl_ok hc hw hi
              have nr := near5 (a := S) (z := Go.Proofs.Ytmknfenjnladeaa.fl t (oI (o + 10)) (wnD wi) i) (A := A) r1 fz.1 (by omega) (by
                generalize sumR (fun q => if ic t q 4 = (i : Int) then sv (Go.Proofs.Ytmknfenjnladeaa.fl t (oI (o + 10)) (wnD wi) q) else 0) 0 t.length = y at *
                generalize sv (Go.Proofs.Ytmknfenjnladeaa.fl t (oI (o + 10)) (wnD wi) i) = z at *
                clear pl hb es fls r10 r11
                omega) (by
                generalize sumR (fun q => if ic t q 4 = (i : Int) then sv (Go.Proofs.Ytmknfenjnladeaa.fl t (oI (o + 10)) (wnD wi) q) else 0) 0 t.length = y at *
                generalize sv (Go.Proofs.Ytmknfenjnladeaa.fl t (oI (o + 10)) (wnD wi) i) = z at *
                clear pl hb es fls r10 r11
                omega) r5 r7 r8
              have e19 : r19 S (Int.toNat (((flows t (oI (o + 10)) (wnD wi)).getD i []).getD 0 0)) (fadd .f32 (fmul .f32 1017370378 A) 1028443341) = true := by
                have ef : Int.toNat (((flows t (oI (o + 10)) (wnD wi)).getD i []).getD 0 0) = Go.Proofs.Ytmknfenjnladeaa.fl t (oI (o + 10)) (wnD wi) i := fls i hi
                rw [ef]
                exact nr
              rw [e19]
              rfl
            · rw [decide_eq_true g1, decide_eq_false g2]; rfl
          · rw [decide_eq_false g1]; rfl
      · rw [decide_eq_true (show ic t i 4 ≥ 0 by omega), pl.1 (by omega)]
        rfl
    show b3l0b (r3l0b m) _ _ _ _ _ _ _ = _
    unfold b3l0b st3l0v1s0 st3l0v1s1 st3l0v1s2
    rw [dlt_t hi, hb, dle0, Int.toNat_natCast, blt_t (show i < (flows t (oI (o + 10)) (wnD wi)).length by rw [hF]; exact hi), wrap_succ (show c < 9223372036854775807 by omega)]
    rw [List.range'_succ, List.filterMap_cons]
    show cond true (cond true (cond true (cond (!(flt .f32 (fc (flows t (oI (o + 10)) (wnD wi)) i 0) 0 == flt .f32 (fc (flows t (oI (o + 10)) (wnD wi)) i 0) 0)) _ (cond true (cond true (cond (flt .f32 (fc (flows t (oI (o + 10)) (wnD wi)) i 0) 0) _ _) _) _)) _) _) _ = _
    rw [beq_self_eq_true]
    unfold bkF
    cases g : flt .f32 (fc (flows t (oI (o + 10)) (wnD wi)) i 0) 0 with
    | true =>
      show st3l0v1s3 (r3l0b m) (oI (o + 10)) (wnD wi) (c : Int) (i : Int) t (flows t (oI (o + 10)) (wnD wi)) (back (flows t (oI (o + 10)) (wnD wi))) ((c + 1 : Nat) : Int) = _
      rw [s3 (c + 1) (by omega), nxt (c + 1) (by omega), if_pos rfl]
      show (0, ((c + 1 + _ : Nat) : Int), 0) = (0, ((c + (_ + 1) : Nat) : Int), 0)
      rw [Nat.add_assoc, Nat.add_comm 1]
      rfl
    | false =>
      show st3l0v1s3 (r3l0b m) (oI (o + 10)) (wnD wi) (c : Int) (i : Int) t (flows t (oI (o + 10)) (wnD wi)) (back (flows t (oI (o + 10)) (wnD wi))) (c : Int) = _
      rw [s3 c (by omega), nxt c (by omega), if_neg (by decide)]
      rfl
theorem same14 {l : List (List Int)} (hl : l.length ≤ 1048576) : r14b l l = (0, true) := by
  have key : r14l0b (1000 + l.length + l.length) 0 l l = 1 := by
    have := all_loop (n := l.length) (p := fun _ => true) (yes := 1) (no := 0) (G := fun m i => r14l0b m i l l) (fuel := 1000 + l.length + l.length) ?_ ?_ (by omega)
    · rw [this, show allN l.length (fun _ => true) = true from allN_true.2 (fun _ _ => rfl)]; rfl
    · intro m
      show b14l0b (r14l0b m) _ _ _ = _
      unfold b14l0b
      rw [dlt_f (Nat.lt_irrefl _)]; rfl
    · intro m i hi
      show b14l0b (r14l0b m) _ _ _ = _
      unfold b14l0b
      have s63 : ∀ x, r63 x x = true := fun x => by
        unfold r63
        cases feq .f32 x x <;> simp
      simp only [s63]
      rw [dlt_t hi, dle0, Int.toNat_natCast, blt_t hi, wrap_succ (by omega)]
      rfl
  unfold r14b
  rw [key, bne_len]; simp [Nat.beq]
theorem plain3 (x0 x1 : List (List Int)) (k0 : RowsOk SU x0) (_ : x0.length ≤ 9223372036854775807) (k1 : RowsOk SU x1) (_ : x1.length ≤ 9223372036854775807) : r3 x0 x1 = (0, true) := by
  unfold r3 st3s0 r8
  by_cases h0 : x0.length ≤ 4096
  · by_cases h1 : x1.length ≤ 4096
    · rw [decide_eq_false (show ¬ ((((x0.length : Nat) : Int) : Int) > 4096) by omega), decide_eq_false (show ¬ ((((x1.length : Nat) : Int) : Int) > 4096) by omega)]
      obtain ⟨t, e9, hd⟩ := draw_ok k0 h0
      have hc := hd.ch
      have n1 := hd.n1
      have n2 := hd.n2
      obtain ⟨o, eo, ho⟩ := pick14 k1 h1 (n := 41) (by omega)
      obtain ⟨wi, ew, hw⟩ := pick14 k0 h0 (n := 17) (by omega)
      have eo' : r10 41 x1 = (0, (o : Int)) := eo
      have ew' : r10 17 x0 = (0, (wi : Int)) := ew
      have wO : ofInt .f32 (IntKind.i64.wrap ((o : Int) - 20)) = oI (o + 10) := by
        rw [wrap_i64 (by omega) (by omega)]; unfold oI; congr 1; omega
      have wW : fdiv .f32 (ofInt .f32 (IntKind.i64.wrap ((wi : Int) - 6))) 1073741824 = wnD wi := by
        rw [wrap_i64 (by omega) (by omega)]; rfl
      have xo := oX (i := o + 10) (by omega)
      have so : sv (oI (o + 10)) = ((o : Int) - 20) * 2 ^ 149 := by
        rw [xo.sv, Int.mul_assoc, show (((o + 10 : Nat) : Int) - 30) = (o : Int) - 20 by omega]; rfl
      obtain ⟨w1, w2, w3, w4⟩ := wn_ok (show wi < 17 by omega)
      have hwk : WOk (oI (o + 10)) (wnD wi) := by
        have e1 := cm60; have e2 := c60; have e3 := cm1000; have e4 := c1000
        exact ⟨xo.fi.nn, xo.lt, by rw [e1, so]; omega, by rw [e2, so]; omega, w1.nn, w2, by rw [e3]; omega, by rw [e4]; omega⟩
      obtain ⟨q1, q2⟩ := code_ok hc hwk
      have hfl := flows_len t (oI (o + 10)) (wnD wi)
      have fa := fin_all (l := flows t (oI (o + 10)) (wnD wi)) (by rw [hfl]; omega) (fun i hi => by
        rw [hfl] at hi
        rw [flows_get hi]; exact (Go.Proofs.Ytmknfenjnladeaa.fl_ok hc hwk hi).1)
      have e11 : r11 (oI (o + 10)) (wnD wi) t = (1, 0, flows t (oI (o + 10)) (wnD wi)) := by
        unfold r11
        rw [q2, flowsI hc hwk]
        simp only
        rw [fa]
        rfl
      have e12 : r12 (oI (o + 10)) (wnD wi) t = (0, 0, flows t (oI (o + 10)) (wnD wi)) := by
        unfold r12
        rw [q1, flowsS hc hwk]
        rfl
      have e13 : r13 (oI (o + 10)) (wnD wi) t = (1, 0, back (flows t (oI (o + 10)) (wnD wi))) := by
        unfold r13
        rw [q2, flowsI hc hwk]
        simp only
        rw [backI (by rw [hfl]; omega)]
        rfl
      have out := outer hd hc hwk (show o < 41 by omega) (show wi < 17 by omega) t.length 0 (1000 + (back (flows t (oI (o + 10)) (wnD wi))).length + (flows t (oI (o + 10)) (wnD wi)).length + t.length) 0 (by omega) (by omega) (Nat.le_refl _)
      have lb : (((List.range' 0 t.length).filterMap (bkF (flows t (oI (o + 10)) (wnD wi)))).length : Nat) = (back (flows t (oI (o + 10)) (wnD wi))).length := by
        unfold back
        rw [List.range_eq_range', hfl]
      rw [Nat.zero_add, lb] at out
      have out' : r3l0b (1000 + (back (flows t (oI (o + 10)) (wnD wi))).length + (flows t (oI (o + 10)) (wnD wi)).length + t.length) (oI (o + 10)) (wnD wi) 0 0 t (flows t (oI (o + 10)) (wnD wi)) (back (flows t (oI (o + 10)) (wnD wi))) = _ := out
      show st3s1 x0 x1 = (0, true)
      unfold st3s1
      simp only [e9, eo', ew', wO, wW, e11, e12, e13, same14 (l := flows t (oI (o + 10)) (wnD wi)) (by rw [hfl]; omega)]
      show st3s2v3 x0 x1 (oI (o + 10)) (wnD wi) t (flows t (oI (o + 10)) (wnD wi)) (back (flows t (oI (o + 10)) (wnD wi))) = (0, true)
      unfold st3s2v3
      rw [out']
      show (0, ((((back (flows t (oI (o + 10)) (wnD wi))).length : Nat) : Int) == (((back (flows t (oI (o + 10)) (wnD wi))).length : Nat) : Int))) = (0, true)
      rw [beq_self_eq_true]
    · rw [decide_eq_true (show (((x1.length : Nat) : Int) : Int) > 4096 by omega)]
      cases decide ((((x0.length : Nat) : Int) : Int) > 4096) <;> rfl
  · rw [decide_eq_true (show (((x0.length : Nat) : Int) : Int) > 4096 by omega)]
    rfl
end Go.Proofs.Ytmknfenjnladeaa
