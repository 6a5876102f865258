/- Spans of whole numbers of units: what is in them. -/
import Derived.Test.YtgkmmkimpmnpkaaPsp2
namespace Go.Proofs.Ytgkmmkimpmnpkaa
open Go.Ab
theorem in_x {a b n : Int} {s1 s2 x : Nat} (h1 : X a s1) (h2 : X b s2) (h : X n x) (l1 : a ≤ n) (l2 : n ≤ b) : r17 s1 s2 x = true := by
  unfold r17 r16
  rw [h1.le_iff h2, h1.le_iff h, h.le_iff h2, decide_eq_true (show a ≤ b by omega), decide_eq_true l1, decide_eq_true l2]
  rfl
theorem in_val {a b n : Int} {s1 s2 x : Nat} (h1 : X a s1) (h2 : X b s2) (h : X n x) (l : a ≤ b) : r17 s1 s2 x = decide (a ≤ n ∧ n ≤ b) := by
  unfold r17 r16
  rw [h1.le_iff h2, h1.le_iff h, h.le_iff h2, decide_eq_true l]
  by_cases g1 : a ≤ n
  · rw [decide_eq_true g1, cond_true, cond_true]; simp [g1]
  · rw [decide_eq_false g1, cond_true, cond_false]; simp [g1]
theorem _root_.Go.Ab.X.nn {n : Int} {a : Nat} (h : X n a) : Nn a := h.fi.nn
theorem _root_.Go.Ab.X.top {n : Int} {a : Nat} (h : X n a) : a ≠ 2139095040 ∧ a ≠ 4286578688 := by
  have := h.fi
  unfold Fi at this
  constructor <;> (intro g; subst g; revert this; decide)
theorem fle_kk {a b : Nat} (ha : Nn a) (hb : Nn b) (a2 : a < 4294967296) (b2 : b < 4294967296) : (flt .f32 a b || feq .f32 a b) = decide (kk a ≤ kk b) := by
  rw [flt_kk ha hb a2 b2, feq_kk ha hb a2 b2]
  by_cases g : kk a ≤ kk b
  · rw [decide_eq_true g]
    rcases Int.lt_or_eq_of_le g with g2 | g2
    · rw [decide_eq_true g2]; rfl
    · rw [decide_eq_true g2, Bool.or_true]
  · rw [decide_eq_false g, decide_eq_false (by omega), decide_eq_false (by omega)]; rfl
/-- what lies between two numbers lies in the span of their neighbours -/
theorem in_out {a b n : Int} {u v x : Nat} (h1 : X a u) (h2 : X b v) (h : X n x) (l1 : a ≤ n) (l2 : n ≤ b) : r17 (r7 u) (r6 v) x = true := by
  obtain ⟨d1, d2, d3⟩ := down_kk u h1.lt h1.nn h1.top.2
  obtain ⟨e1, e2, e3⟩ := up_kk v h2.lt h2.nn h2.top.1
  have g1 := h1.kk_le h l1
  have g2 := h.kk_le h2 l2
  unfold r17 r16
  rw [fle_kk d2 e2 d1 e1, fle_kk d2 h.nn d1 h.lt, fle_kk h.nn e2 h.lt e1, decide_eq_true (show kk (r7 u) ≤ kk (r6 v) by omega), decide_eq_true (show kk (r7 u) ≤ kk x by omega), decide_eq_true (show kk x ≤ kk (r6 v) by omega)]
  rfl
theorem low_x {n : Int} {a : Nat} (h : X n a) : r48 a = (0, r7 a) := by
  unfold r48
  rw [h.eq_iff h, decide_eq_true rfl]
  rfl
theorem high_x {n : Int} {a : Nat} (h : X n a) : r49 a = (0, r6 a) := by
  unfold r49
  rw [h.eq_iff h, decide_eq_true rfl]
  rfl
/-- two spans, with a number in each -/
structure Two (a b n c d m : Int) (s1 s2 x t1 t2 y : Nat) : Prop where
  xa : X a s1
  xb : X b s2
  xn : X n x
  xc : X c t1
  xd : X d t2
  xm : X m y
  l1 : a ≤ n
  l2 : n ≤ b
  l3 : c ≤ m
  l4 : m ≤ d
  b1 : -131072 ≤ a
  b2 : b ≤ 196608
  b3 : -131072 ≤ c
  b4 : d ≤ 196608
section
variable {a b n c d m : Int} {s1 s2 x t1 t2 y : Nat} (H : Two a b n c d m s1 s2 x t1 t2 y)
include H
theorem Two.valid : r16 s1 s2 = true := by
  have := H.l1; have := H.l2
  unfold r16; rw [H.xa.le_iff H.xb]; exact decide_eq_true (by omega)
theorem Two.valid2 : r16 t1 t2 = true := by
  have := H.l3; have := H.l4
  unfold r16; rw [H.xc.le_iff H.xd]; exact decide_eq_true (by omega)
theorem Two.are : r39 s1 s2 t1 t2 = true := by
  unfold r39; rw [H.valid, H.valid2]; rfl
theorem Two.add : r13 s1 s2 t1 t2 = (0, r7 (fadd .f32 s1 t1), r6 (fadd .f32 s2 t2), 0) ∧ r17 (r7 (fadd .f32 s1 t1)) (r6 (fadd .f32 s2 t2)) (fadd .f32 x y) = true := by
  have := H.l1; have := H.l2; have := H.l3; have := H.l4; have := H.b1; have := H.b2; have := H.b3; have := H.b4
  have p := H.xa.add H.xc (by omega) (by omega)
  have q := H.xb.add H.xd (by omega) (by omega)
  have r := H.xn.add H.xm (by omega) (by omega)
  refine ⟨?_, in_out p q r (by omega) (by omega)⟩
  unfold r13 r31 r32
  rw [H.are, low_x p, high_x q]
  rfl
theorem Two.sub : r14 s1 s2 t1 t2 = (0, r7 (fsub .f32 s1 t2), r6 (fsub .f32 s2 t1), 0) ∧ r17 (r7 (fsub .f32 s1 t2)) (r6 (fsub .f32 s2 t1)) (fsub .f32 x y) = true := by
  have := H.l1; have := H.l2; have := H.l3; have := H.l4; have := H.b1; have := H.b2; have := H.b3; have := H.b4
  have p := H.xa.sub H.xd (by omega) (by omega)
  have q := H.xb.sub H.xc (by omega) (by omega)
  have r := H.xn.sub H.xm (by omega) (by omega)
  refine ⟨?_, in_out p q r (by omega) (by omega)⟩
  unfold r14 r31b r33
  rw [H.are, low_x p, high_x q]
  rfl
theorem Two.less : r22 s1 s2 t1 t2 = cond (decide (b < c)) (1065353216, 1065353216, 0) (cond (decide (d ≤ a)) (0, 0, 0) (0, 1065353216, 0)) := by
  unfold r22 r31e r42
  rw [H.are, H.xb.lt_iff H.xc, H.xa.ge_iff H.xd]
  cases decide (b < c) <;> cases decide (d ≤ a) <;> rfl
end
end Go.Proofs.Ytgkmmkimpmnpkaa
