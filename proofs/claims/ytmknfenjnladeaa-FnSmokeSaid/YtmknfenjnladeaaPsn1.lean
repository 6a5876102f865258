/- A mean of numbers, with weights, in single precision. -/
import Derived.Test.YtmknfenjnladeaaPfn1
import Derived.Test.YtmknfenjnladeaaA33
import Derived.Test.YtmknfenjnladeaaA32
import Derived.Test.YtmknfenjnladeaaA25
namespace Go.Ab
open Ieee
set_option maxRecDepth 100000

theorem mean_core {H m p a h A A' u B : Int} (B0 : 2 ^ 149 ≤ B) (u1 : u ≤ 2 * B) (u2 : -(2 * B) ≤ u) (A0 : 0 ≤ A) (a0 : 2 ^ 70 ≤ a)
    (h1 : h ≤ u) (hb1 : h ≤ B) (hb2 : -B ≤ h) (H1 : H * 2 ^ 149 ≤ u * A) (H2 : H * 2 ^ 149 ≤ 2 * B * A) (H3 : -(2 * B * A) ≤ H * 2 ^ 149)
    (m1 : (m * 2 ^ 149 - a * h) * 2 ^ 23 ≤ ((a * h).natAbs : Int) + 2 ^ 149 * 2 ^ 23) (m2 : (a * h - m * 2 ^ 149) * 2 ^ 23 ≤ ((a * h).natAbs : Int) + 2 ^ 149 * 2 ^ 23)
    (p1 : (p - (H + m)) * 2 ^ 23 ≤ ((H + m).natAbs : Int) + 2 ^ 23)
    (s1 : (A' - (A + a)) * 2 ^ 23 ≤ A + a + 2 ^ 23) (s2 : (A + a - A') * 2 ^ 23 ≤ A + a + 2 ^ 23) :
    p * 2 ^ 149 * 2 ^ 23 ≤ u * A' * 2 ^ 23 + 12 * (B * A') := by
  have k1 : a * h ≤ a * u := Int.mul_le_mul_of_nonneg_left h1 (by omega)
  have k2 : a * h ≤ a * B := Int.mul_le_mul_of_nonneg_left hb1 (by omega)
  have k3 : -(a * B) ≤ a * h := by
    have := Int.mul_le_mul_of_nonneg_left hb2 (show 0 ≤ a by omega)
    rwa [Int.mul_neg] at this
  have k4 : 2 ^ 70 * B ≤ a * B := Int.mul_le_mul_of_nonneg_right a0 (by omega)
  have k5 : B * (A + a) ≤ B * (2 * A') := Int.mul_le_mul_of_nonneg_left (by omega) (by omega)
  have k6 : u * ((A + a - A') * 2 ^ 23) ≤ 2 * B * (A + a + 2 ^ 23) := by
    have q1 : ((u.natAbs : Nat) : Int) ≤ 2 * B := by omega
    have q2 : ((((A + a - A') * 2 ^ 23).natAbs : Nat) : Int) ≤ A + a + 2 ^ 23 := by omega
    have q3 : u * ((A + a - A') * 2 ^ 23) ≤ (((u * ((A + a - A') * 2 ^ 23)).natAbs : Nat) : Int) := Int.le_natAbs
    rw [Int.natAbs_mul,Int.natCast_mul] at q3
    exact Int.le_trans q3 (Int.mul_le_mul q1 q2 (Int.natCast_nonneg _) (by omega))
  have k7 : 0 ≤ B * A := Int.mul_nonneg (by omega) A0
  have e1 : u * ((A + a - A') * 2 ^ 23) = (u * A + a * u - u * A') * 2 ^ 23 := by
    rw [← Int.mul_assoc,Int.mul_sub,Int.mul_add,Int.mul_comm u a]
  have e2 : 2 * B * (A + a + 2 ^ 23) = 2 * (B * A) + 2 * (a * B) + 2 * B * 2 ^ 23 := by
    rw [Int.mul_add,Int.mul_add,Int.mul_assoc 2 B A,Int.mul_assoc 2 B a,Int.mul_comm B a]
  have e3 : B * (A + a) = B * A + a * B := by rw [Int.mul_add,Int.mul_comm B a]
  have e4 : B * (2 * A') = 2 * (B * A') := by rw [← Int.mul_assoc,Int.mul_comm B 2,Int.mul_assoc]
  rw [e1,e2] at k6
  rw [e3,e4] at k5
  rw [Int.mul_assoc 2 B A] at H2 H3
  clear e1 e2 e3 e4 h1 hb1 hb2 u1 u2
  generalize u * A = uA at *
  generalize a * u = au at *
  generalize u * A' = uA' at *
  generalize a * B = aB at *
  generalize B * A = BA at *
  generalize B * A' = BA' at *
  generalize a * h = ah at *
  have n1 : ((ah.natAbs : Nat) : Int) ≤ aB := by omega
  generalize ((ah.natAbs : Nat) : Int) = nah at *
  have n2 : (((H + m).natAbs : Nat) : Int) * 2 ^ 149 ≤ 2 * BA + 2 * aB := by omega
  generalize (((H + m).natAbs : Nat) : Int) = nhm at *
  clear k3 H2 H3 m2 s1 s2
  omega

structure Mn (L U B e : Int) (n : Nat) (p : Nat × Nat) : Prop where
  f1 : Fi p.1
  l1 : p.1 < 4294967296
  f2 : Fi p.2
  l2 : p.2 < 4294967296
  s0 : 0 ≤ sv p.2
  s1 : sv p.2 ≤ n * 2 ^ 160
  up : sv p.1 * 2 ^ 149 ≤ (U + n * e) * sv p.2
  dn : (L - n * e) * sv p.2 ≤ sv p.1 * 2 ^ 149
structure Mb (L U B e : Int) : Prop where
  b0 : 2 ^ 149 ≤ B
  b1 : B ≤ 2 ^ 161
  e0 : 12 * B ≤ e * 2 ^ 23
  e1 : 8 * e ≤ B
  l0 : -B ≤ L
  u0 : U ≤ B
  lu : L ≤ U
theorem Mn.start {L U B e : Int} : Mn L U B e 0 (0,0) := by
  have z : sv 0 = 0 := by decide +kernel
  refine ⟨by unfold Fi; decide,by decide,by unfold Fi; decide,by decide,by rw [z]; decide,by rw [z]; decide,?_,?_⟩ <;> rw [z] <;> simp
theorem Mn.skip {L U B e : Int} (b : Mb L U B e) {n : Nat} {p : Nat × Nat} (h : Mn L U B e n p) : Mn L U B e (n + 1) p := by
  have b0 := b.b0
  have e0 := b.e0
  have he : 0 ≤ e * sv p.2 := Int.mul_nonneg (by omega) h.s0
  have up := h.up
  have dn := h.dn
  have en1 : ((n + 1 : Nat) : Int) * e = n * e + e := by rw [Int.natCast_add,Int.add_mul]; simp
  refine ⟨h.f1,h.l1,h.f2,h.l2,h.s0,?_,?_,?_⟩
  · have := h.s1
    omega
  · rw [en1,← Int.add_assoc,Int.add_mul]
    omega
  · rw [en1,← Int.sub_sub,Int.sub_mul]
    omega
theorem Mn.step {L U B e : Int} (b : Mb L U B e) {n : Nat} (hn : n < 6) {p : Nat × Nat} (h : Mn L U B e n p) {f t : Nat} (ff : Fi f) (f2 : f < 4294967296) (f0 : 2 ^ 70 ≤ sv f) (f1 : sv f ≤ 2 ^ 158) (ft : Fi t) (t0 : L ≤ sv t) (t1 : sv t ≤ U) :
    Mn L U B e (n + 1) (fadd .f32 p.1 (fmul .f32 f t),fadd .f32 p.2 f) := by
  obtain ⟨b0,b1,e0,e1,l0,u0,lu⟩ := b
  obtain ⟨g1,_,g2,_,s0,s1,up,dn⟩ := h
  have F := FM_200
  have ne : 0 ≤ (n : Int) * e ∧ (n : Int) * e ≤ 8 * e := ⟨Int.mul_nonneg (Int.natCast_nonneg _) (by omega),Int.mul_le_mul_of_nonneg_right (by omega) (by omega)⟩
  have en1 : ((n + 1 : Nat) : Int) * e = n * e + e := by rw [Int.natCast_add,Int.add_mul]; simp
  have ht : sv f * sv t ≤ sv f * B ∧ -(sv f * B) ≤ sv f * sv t := by
    refine ⟨Int.mul_le_mul_of_nonneg_left (by omega) (by omega),?_⟩
    have := Int.mul_le_mul_of_nonneg_left (show -B ≤ sv t by omega) (show 0 ≤ sv f by omega)
    rwa [Int.mul_neg] at this
  have fB : sv f * B ≤ 2 ^ 158 * 2 ^ 161 := Int.mul_le_mul f1 b1 (by omega) (by decide)
  have FP : (2 : Int) ^ 200 * 2 ^ 149 ≤ FM * 2 ^ 149 := Int.mul_le_mul_of_nonneg_right F (by decide)
  have big : (2 : Int) ^ 158 * 2 ^ 161 ≤ 2 ^ 200 * 2 ^ 149 := by decide
  have frm := mul_fr ff ft (by omega) (by omega)
  have em := frm.err (Nat.two_pow_pos _) (by rw [Int.natCast_pow]; exact Int.le_trans ht.1 (Int.le_trans fB (Int.le_trans big FP))) (by
    rw [Int.natCast_pow]
    show -(FM * 2 ^ 149) ≤ _
    omega)
  rw [Int.natCast_pow] at em
  have hu : (U + n * e) * sv p.2 ≤ 2 * B * sv p.2 := Int.mul_le_mul_of_nonneg_right (by omega) s0
  have hl : -(2 * B) * sv p.2 ≤ (L - n * e) * sv p.2 := Int.mul_le_mul_of_nonneg_right (by omega) s0
  rw [Int.neg_mul] at hl
  have sB : 2 * B * sv p.2 ≤ 2 * 2 ^ 161 * 2 ^ 163 := Int.mul_le_mul (by omega) (by omega) s0 (by decide)
  have em1 : (sv (fmul .f32 f t) * 2 ^ 149 - sv f * sv t) * 2 ^ 23 ≤ ((sv f * sv t).natAbs : Int) + 2 ^ 149 * 2 ^ 23 := em.1
  have em2 : (sv f * sv t - sv (fmul .f32 f t) * 2 ^ 149) * 2 ^ 23 ≤ ((sv f * sv t).natAbs : Int) + 2 ^ 149 * 2 ^ 23 := em.2
  have hH : sv p.1 ≤ 2 ^ 180 ∧ -(2 ^ 180) ≤ sv p.1 := by
    clear em em1 em2 frm FP big F
    generalize (U + n * e) * sv p.2 = x1 at *
    generalize (L - n * e) * sv p.2 = x2 at *
    generalize 2 * B * sv p.2 = x3 at *
    constructor <;> omega
  have hm : sv (fmul .f32 f t) ≤ 2 ^ 180 ∧ -(2 ^ 180) ≤ sv (fmul .f32 f t) := by
    clear em frm FP big F hu hl up dn
    generalize sv f * sv t = x1 at *
    generalize sv f * B = x2 at *
    constructor <;> omega
  have frp := add_fr (a := p.1) (b := fmul .f32 f t) g1 frm.fi (by omega) (by omega)
  have ep := frp.err Nat.one_pos (by omega) (by omega)
  have frs := add_fr (a := p.2) (b := f) g2 ff (by omega) (by omega)
  have es := frs.err Nat.one_pos (by omega) (by omega)
  have nn : 0 ≤ sv p.2 + sv f := by omega
  rw [show (((sv p.2 + sv f).natAbs : Nat) : Int) = sv p.2 + sv f from Int.natAbs_of_nonneg nn] at es
  have c1 := mean_core (H := sv p.1) (m := sv (fmul .f32 f t)) (p := sv (fadd .f32 p.1 (fmul .f32 f t))) (a := sv f) (h := sv t) (A := sv p.2) (A' := sv (fadd .f32 p.2 f)) (u := U + n * e) (B := B) b0 (by omega) (by omega) s0 f0 (by omega) (by omega) (by omega) up (by omega) (by omega) em1 em2 (by have := ep.1; omega) (by have := es.1; omega) (by have := es.2; omega)
  have c2 := mean_core (H := -sv p.1) (m := -sv (fmul .f32 f t)) (p := -sv (fadd .f32 p.1 (fmul .f32 f t))) (a := sv f) (h := -sv t) (A := sv p.2) (A' := sv (fadd .f32 p.2 f)) (u := -(L - n * e)) (B := B) b0 (by omega) (by omega) s0 f0 (by omega) (by omega) (by omega) (by rw [Int.neg_mul,Int.neg_mul]; omega) (by rw [Int.neg_mul]; omega) (by rw [Int.neg_mul]; omega)
    (by rw [Int.neg_mul,Int.mul_neg,Int.natAbs_neg]; omega) (by rw [Int.neg_mul,Int.mul_neg,Int.natAbs_neg]; omega) (by
      rw [← Int.neg_add,Int.natAbs_neg]
      have := ep.2
      omega) (by have := es.1; omega) (by have := es.2; omega)
  have pos : 0 ≤ sv (fadd .f32 p.2 f) := frs.nonneg nn
  have eA : 12 * (B * sv (fadd .f32 p.2 f)) ≤ e * sv (fadd .f32 p.2 f) * 2 ^ 23 := by
    have := Int.mul_le_mul_of_nonneg_right e0 pos
    rw [Int.mul_assoc 12] at this
    rw [Int.mul_right_comm]
    exact this
  refine ⟨frp.fi,frp.lt,frs.fi,frs.lt,pos,?_,?_,?_⟩
  · have := es.1
    show sv (fadd .f32 p.2 f) ≤ _
    have ex : ((n + 1 : Nat) : Int) * 2 ^ 160 = n * 2 ^ 160 + 2 ^ 160 := by rw [Int.natCast_add,Int.add_mul]; simp
    rw [ex]
    clear c1 c2 ep em em1 em2 eA frp frm hu hl up dn
    have nl : (n : Int) ≤ 5 := by omega
    generalize sv (fadd .f32 p.2 f) = z at *
    omega
  · show sv (fadd .f32 p.1 (fmul .f32 f t)) * 2 ^ 149 ≤ (U + ((n + 1 : Nat) : Int) * e) * sv (fadd .f32 p.2 f)
    rw [en1,← Int.add_assoc,Int.add_mul]
    generalize (U + n * e) * sv (fadd .f32 p.2 f) = x1 at *
    generalize e * sv (fadd .f32 p.2 f) = x2 at *
    generalize B * sv (fadd .f32 p.2 f) = x3 at *
    generalize sv (fadd .f32 p.1 (fmul .f32 f t)) = x4 at *
    clear c2 ep em em1 em2 frp frm hu hl up dn
    omega
  · show (L - ((n + 1 : Nat) : Int) * e) * sv (fadd .f32 p.2 f) ≤ sv (fadd .f32 p.1 (fmul .f32 f t)) * 2 ^ 149
    rw [en1,← Int.sub_sub,Int.sub_mul]
    simp only [Int.neg_mul] at c2
    generalize (L - n * e) * sv (fadd .f32 p.2 f) = x1 at *
    generalize e * sv (fadd .f32 p.2 f) = x2 at *
    generalize B * sv (fadd .f32 p.2 f) = x3 at *
    generalize sv (fadd .f32 p.1 (fmul .f32 f t)) = x4 at *
    clear c1 ep em em1 em2 frp frm hu hl up dn
    omega
theorem Mn.div {L U B e : Int} (b : Mb L U B e) {n : Nat} (hn : n ≤ 6) {p : Nat × Nat} (h : Mn L U B e n p) (h0 : 0 < sv p.2) :
    Fi (fdiv .f32 p.1 p.2) ∧ fdiv .f32 p.1 p.2 < 4294967296 ∧ sv (fdiv .f32 p.1 p.2) ≤ U + 7 * e ∧ L - 7 * e ≤ sv (fdiv .f32 p.1 p.2) := by
  obtain ⟨b0,b1,e0,e1,l0,u0,lu⟩ := b
  obtain ⟨g1,_,g2,_,s0,s1,up,dn⟩ := h
  have F := FM_200
  have ne : 0 ≤ (n : Int) * e ∧ (n : Int) * e ≤ 6 * e := ⟨Int.mul_nonneg (Int.natCast_nonneg _) (by omega),Int.mul_le_mul_of_nonneg_right (by omega) (by omega)⟩
  have hu : (U + n * e) * sv p.2 ≤ (U + 6 * e) * sv p.2 := Int.mul_le_mul_of_nonneg_right (by omega) s0
  have hl : (L - 6 * e) * sv p.2 ≤ (L - n * e) * sv p.2 := Int.mul_le_mul_of_nonneg_right (by omega) s0
  have hu2 : (U + 6 * e) * sv p.2 ≤ 2 * B * sv p.2 := Int.mul_le_mul_of_nonneg_right (by omega) s0
  have hl2 : -(2 * B) * sv p.2 ≤ (L - 6 * e) * sv p.2 := Int.mul_le_mul_of_nonneg_right (by omega) s0
  rw [Int.neg_mul] at hl2
  have hF : 2 * B * sv p.2 ≤ FM * sv p.2 := Int.mul_le_mul_of_nonneg_right (Int.le_trans (by omega) F) s0
  have fr := div_fr (a := p.1) (b := p.2) g1 g2 h0 (by omega) (by generalize FM * sv p.2 = q at *; omega)
  have ht : (((sv p.2).toNat : Nat) : Int) = sv p.2 := Int.toNat_of_nonneg s0
  have er := fr.err (by omega) (by rw [ht]; omega) (by rw [ht]; generalize FM * sv p.2 = q at *; omega)
  rw [ht] at er
  refine ⟨fr.fi,fr.lt,?_,?_⟩
  · refine Int.not_lt.1 fun g => ?_
    have k : (U + 7 * e + 1) * sv p.2 ≤ sv (fdiv .f32 p.1 p.2) * sv p.2 := Int.mul_le_mul_of_nonneg_right (by omega) s0
    have k2 : 12 * B * sv p.2 ≤ e * 2 ^ 23 * sv p.2 := Int.mul_le_mul_of_nonneg_right e0 s0
    have k3 : 2 ^ 149 * sv p.2 ≤ B * sv p.2 := Int.mul_le_mul_of_nonneg_right b0 s0
    have x1 : (U + 7 * e + 1) * sv p.2 = (U + 6 * e) * sv p.2 + e * sv p.2 + sv p.2 := by
      rw [show U + 7 * e + 1 = (U + 6 * e) + e + 1 by omega,Int.add_mul,Int.add_mul,Int.one_mul]
    have x2 : e * 2 ^ 23 * sv p.2 = e * sv p.2 * 2 ^ 23 := Int.mul_right_comm _ _ _
    have x3 : 12 * B * sv p.2 = 12 * (B * sv p.2) := Int.mul_assoc _ _ _
    have x4 : 2 * B * sv p.2 = 2 * (B * sv p.2) := Int.mul_assoc _ _ _
    rw [x1] at k
    rw [x2,x3] at k2
    rw [x4] at hu2 hl2 hF
    have e1 := er.1
    clear er fr F hF x1 x2 x3 x4
    generalize (U + n * e) * sv p.2 = y1 at *
    generalize (L - n * e) * sv p.2 = y2 at *
    generalize (U + 6 * e) * sv p.2 = y3 at *
    generalize (L - 6 * e) * sv p.2 = y4 at *
    generalize e * sv p.2 = y5 at *
    generalize B * sv p.2 = y6 at *
    generalize sv (fdiv .f32 p.1 p.2) * sv p.2 = y7 at *
    omega
  · refine Int.not_lt.1 fun g => ?_
    have k : sv (fdiv .f32 p.1 p.2) * sv p.2 ≤ (L - 7 * e - 1) * sv p.2 := Int.mul_le_mul_of_nonneg_right (by omega) s0
    have k2 : 12 * B * sv p.2 ≤ e * 2 ^ 23 * sv p.2 := Int.mul_le_mul_of_nonneg_right e0 s0
    have k3 : 2 ^ 149 * sv p.2 ≤ B * sv p.2 := Int.mul_le_mul_of_nonneg_right b0 s0
    have x1 : (L - 7 * e - 1) * sv p.2 = (L - 6 * e) * sv p.2 - e * sv p.2 - sv p.2 := by
      rw [show L - 7 * e - 1 = (L - 6 * e) - e - 1 by omega,Int.sub_mul,Int.sub_mul,Int.one_mul]
    have x2 : e * 2 ^ 23 * sv p.2 = e * sv p.2 * 2 ^ 23 := Int.mul_right_comm _ _ _
    have x3 : 12 * B * sv p.2 = 12 * (B * sv p.2) := Int.mul_assoc _ _ _
    have x4 : 2 * B * sv p.2 = 2 * (B * sv p.2) := Int.mul_assoc _ _ _
    rw [x1] at k
    rw [x2,x3] at k2
    rw [x4] at hu2 hl2 hF
    have e1 := er.2
    clear er fr F hF x1 x2 x3 x4
    generalize (U + n * e) * sv p.2 = y1 at *
    generalize (L - n * e) * sv p.2 = y2 at *
    generalize (U + 6 * e) * sv p.2 = y3 at *
    generalize (L - 6 * e) * sv p.2 = y4 at *
    generalize e * sv p.2 = y5 at *
    generalize B * sv p.2 = y6 at *
    generalize sv (fdiv .f32 p.1 p.2) * sv p.2 = y7 at *
    omega
end Go.Ab

namespace Go.Ab
open Ieee
set_option maxRecDepth 100000

theorem quot_big {z r : Nat} (hz : Fi z) (hr : Fi r) (r1 : 2 ^ 149 ≤ sv r) (r2 : sv r ≤ 2 ^ 165) (z1 : sv z ≤ 2 ^ 160) (z2 : -(2 ^ 160) ≤ sv z) :
    Fi (fdiv .f32 z r) ∧ fdiv .f32 z r < 4294967296 ∧ (0 ≤ sv z → 0 ≤ sv (fdiv .f32 z r)) ∧ (sv z ≤ 0 → sv (fdiv .f32 z r) ≤ 0) ∧ sv (fdiv .f32 z r) ≤ 2 ^ 161 ∧ -(2 ^ 161) ≤ sv (fdiv .f32 z r) ∧
      (sv (fdiv .f32 z r) * sv r - sv z * 2 ^ 149) * 2 ^ 23 ≤ (sv z).natAbs * 2 ^ 149 + sv r * 2 ^ 23 ∧ (sv z * 2 ^ 149 - sv (fdiv .f32 z r) * sv r) * 2 ^ 23 ≤ (sv z).natAbs * 2 ^ 149 + sv r * 2 ^ 23 := by
  have fr := div_fr (a := z) (b := r) hz hr
  have F := FM_200
  generalize sv z = y at *
  generalize sv r = R at *
  have hp : 0 < R := by omega
  have big : (2 : Int) ^ 160 * 2 ^ 149 ≤ FM * R := Int.le_trans (show (2 : Int) ^ 160 * 2 ^ 149 ≤ 2 ^ 200 * 2 ^ 149 by decide) (Int.mul_le_mul F r1 (by decide) (Int.le_trans (by decide) F))
  have fr := fr hp (by omega) (by generalize FM * R = q at *; omega)
  have ht : ((R.toNat : Nat) : Int) = R := Int.toNat_of_nonneg (by omega)
  have e := fr.err (by omega) (by rw [ht]; omega) (by rw [ht]; generalize FM * R = q at *; omega)
  rw [ht] at e
  have s1 : 0 ≤ y → 0 ≤ sv (fdiv .f32 z r) := fun g => fr.nonneg (by omega)
  have s2 : y ≤ 0 → sv (fdiv .f32 z r) ≤ 0 := fun g => by
    have := fr.le 0 (by decide) (by rw [show rval F32 0 = 0 from rval_zero F32]; omega)
    rw [show rval F32 0 = 0 from rval_zero F32] at this
    exact this
  refine ⟨fr.fi,fr.lt,s1,s2,?_⟩
  generalize sv (fdiv .f32 z r) = s at *
  clear fr
  have en : ((y * 2 ^ 149).natAbs : Int) = y.natAbs * 2 ^ 149 := by omega
  rw [en] at e
  refine ⟨?_,?_,e.1,e.2⟩
  · refine Int.not_lt.1 fun g => ?_
    have : (2 ^ 161) * R ≤ s * R := Int.mul_le_mul_of_nonneg_right (by omega) (by omega)
    generalize s * R = sR at *
    omega
  · refine Int.not_lt.1 fun g => ?_
    have : s * R ≤ (-(2 ^ 161)) * R := Int.mul_le_mul_of_nonneg_right (by omega) (by omega)
    rw [Int.neg_mul] at this
    generalize s * R = sR at *
    omega
theorem sq_core {Z Q p R : Int} (z0 : 0 ≤ Z) (zb : Z ≤ 2 ^ 160) (q0 : 0 ≤ Q) (p0 : 0 ≤ p) (pb : p ≤ 2 ^ 156) (r0 : 0 ≤ R) (rb : R ≤ 2 ^ 165)
    (h1 : (Q * R - Z * 2 ^ 149) * 2 ^ 23 ≤ Z * 2 ^ 149 + R * 2 ^ 23) (h1' : (Z * 2 ^ 149 - Q * R) * 2 ^ 23 ≤ Z * 2 ^ 149 + R * 2 ^ 23)
    (h2 : p * p * 70368744177664 ≤ Q * 2 ^ 149 * 70368760954881 + p * 281474976710656 + 70368744177664) (h2' : Q * 2 ^ 149 * 70368744177664 ≤ p * p * 70368760954881 + p * 281474976710656 + 70368744177664) :
    p * p * R * 2 ^ 22 ≤ Z * 2 ^ 149 * 2 ^ 149 * (2 ^ 22 + 2) + 2 ^ 200 * 2 ^ 147 ∧ Z * 2 ^ 149 * 2 ^ 149 * 2 ^ 22 ≤ p * p * R * (2 ^ 22 + 2) + 2 ^ 200 * 2 ^ 147 := by
  have k2 := Int.mul_le_mul_of_nonneg_right h2 r0
  have k2' := Int.mul_le_mul_of_nonneg_right h2' r0
  have pr : p * R ≤ 2 ^ 156 * 2 ^ 165 := Int.mul_le_mul pb rb r0 (by decide)
  have pr0 := Int.mul_nonneg p0 r0
  have c0 := Int.mul_nonneg (Int.mul_nonneg p0 p0) r0
  have d0 := Int.mul_nonneg q0 r0
  rw [show p * p * 70368744177664 * R = p * p * R * 70368744177664 by grind,show (Q * 2 ^ 149 * 70368760954881 + p * 281474976710656 + 70368744177664) * R = Q * R * 2 ^ 149 * 70368760954881 + p * R * 281474976710656 + R * 70368744177664 by grind] at k2
  rw [show Q * 2 ^ 149 * 70368744177664 * R = Q * R * 2 ^ 149 * 70368744177664 by grind,show (p * p * 70368760954881 + p * 281474976710656 + 70368744177664) * R = p * p * R * 70368760954881 + p * R * 281474976710656 + R * 70368744177664 by grind] at k2'
  clear h2 h2'
  generalize p * p * R = c at *
  generalize p * R = e at *
  generalize Q * R = d at *
  clear p0 pb q0
  have d1 : d * 2 ^ 23 ≤ Z * 2 ^ 149 * (2 ^ 23 + 1) + 2 ^ 190 := by omega
  have d2 : Z * 2 ^ 149 * (2 ^ 23 - 1) ≤ d * 2 ^ 23 + 2 ^ 190 := by omega
  have c1 : c * 2 ^ 46 ≤ d * 2 ^ 149 * 70368760954881 + 2 ^ 200 * 2 ^ 170 := by omega
  have c2 : d * 2 ^ 149 * 2 ^ 46 ≤ c * 70368760954881 + 2 ^ 200 * 2 ^ 170 := by omega
  clear k2 k2' h1 h1' pr pr0
  constructor
  · omega
  · omega
theorem flow_sq {z r : Nat} (hz : Fi z) (hr : Fi r) (r1 : 2 ^ 149 ≤ sv r) (r2 : sv r ≤ 2 ^ 165) (z1 : sv z ≤ 2 ^ 160) (z2 : -(2 ^ 160) ≤ sv z) :
    Fi (fl (fdiv .f32 z r)) ∧ fl (fdiv .f32 z r) < 4294967296 ∧ (0 ≤ sv z → 0 ≤ sv (fl (fdiv .f32 z r))) ∧ (sv z ≤ 0 → sv (fl (fdiv .f32 z r)) ≤ 0) ∧
    ((sv (fl (fdiv .f32 z r))).natAbs : Int) * (sv (fl (fdiv .f32 z r))).natAbs * sv r * 2 ^ 22 ≤ (sv z).natAbs * 2 ^ 149 * 2 ^ 149 * (2 ^ 22 + 2) + 2 ^ 200 * 2 ^ 147 ∧
    ((sv z).natAbs : Int) * 2 ^ 149 * 2 ^ 149 * 2 ^ 22 ≤ (sv (fl (fdiv .f32 z r))).natAbs * (sv (fl (fdiv .f32 z r))).natAbs * sv r * (2 ^ 22 + 2) + 2 ^ 200 * 2 ^ 147 := by
  obtain ⟨a1,a2,a3,a4,a5,a6,a7,a8⟩ := quot_big hz hr r1 r2 z1 z2
  obtain ⟨f1,f2,_,_,f3,f4,x,x1,x2,x3⟩ := fl_ok a1 a2
  have up := rt_up x1
  have dn := rt_dn x1
  rw [← x3] at up dn
  generalize fdiv .f32 z r = q at *
  generalize fl q = u at *
  have up' : ((sv u).natAbs : Int) * (sv u).natAbs * 70368744177664 ≤ ((sv q).natAbs : Int) * 2 ^ 149 * 70368760954881 + (sv u).natAbs * 281474976710656 + 70368744177664 := by
    have h := Int.ofNat_le.2 up
    simp only [Int.natCast_add,Int.natCast_mul,x2] at h
    exact h
  have dn' : ((sv q).natAbs : Int) * 2 ^ 149 * 70368744177664 ≤ ((sv u).natAbs : Int) * (sv u).natAbs * 70368760954881 + (sv u).natAbs * 281474976710656 + 70368744177664 := by
    have h := Int.ofNat_le.2 dn
    simp only [Int.natCast_add,Int.natCast_mul,x2] at h
    exact h
  have qb : ((sv q).natAbs : Int) ≤ 2 ^ 161 := by omega
  have pb : ((sv u).natAbs : Int) ≤ 2 ^ 156 := by
    refine Int.not_lt.1 fun g => ?_
    have g2 : (2 ^ 156 : Int) * (sv u).natAbs ≤ (sv u).natAbs * (sv u).natAbs := Int.mul_le_mul_of_nonneg_right (by omega) (by omega)
    generalize ((sv u).natAbs : Int) = p at *
    generalize ((sv q).natAbs : Int) = Q at *
    generalize p * p = pp at *
    clear dn'
    omega
  have R0 : 0 ≤ sv r := by omega
  refine ⟨f1,f2,fun g => f3 (a3 g),fun g => f4 (a4 g),?_⟩
  refine sq_core (Q := ((sv q).natAbs : Int)) (by omega) (by omega) (by omega) (by omega) pb R0 r2 ?_ ?_ up' dn'
  · by_cases g : 0 ≤ sv z
    · rw [Int.natAbs_of_nonneg g,Int.natAbs_of_nonneg (a3 g)]
      rw [Int.natAbs_of_nonneg g] at a7
      exact a7
    · have e1 : ((sv q).natAbs : Int) = -sv q := by have := a4 (by omega); omega
      have e2 : ((sv z).natAbs : Int) = -sv z := by omega
      rw [e1,e2]
      rw [e2] at a8
      have e : -sv q * sv r = -(sv q * sv r) := Int.neg_mul _ _
      rw [e]; generalize sv q * sv r = w at *; omega
  · by_cases g : 0 ≤ sv z
    · rw [Int.natAbs_of_nonneg g,Int.natAbs_of_nonneg (a3 g)]
      rw [Int.natAbs_of_nonneg g] at a8
      exact a8
    · have e1 : ((sv q).natAbs : Int) = -sv q := by have := a4 (by omega); omega
      have e2 : ((sv z).natAbs : Int) = -sv z := by omega
      rw [e1,e2]
      rw [e2] at a7
      have e : -sv q * sv r = -(sv q * sv r) := Int.neg_mul _ _
      rw [e]; generalize sv q * sv r = w at *; omega
end Go.Ab

namespace Go.Ab
open Ieee
set_option maxRecDepth 100000

structure Fw (z : Int) (r u : Nat) : Prop where
  fi : Fi u
  lt : u < 4294967296
  pos : 0 ≤ z → 0 ≤ sv u
  neg : z ≤ 0 → sv u ≤ 0
  up : ((sv u).natAbs : Int) * (sv u).natAbs * sv r * 2 ^ 20 ≤ z.natAbs * 2 ^ 149 * 2 ^ 149 * (2 ^ 20 + 1) + 2 ^ 200 * 2 ^ 150
  dn : (z.natAbs : Int) * 2 ^ 149 * 2 ^ 149 * 2 ^ 20 ≤ (sv u).natAbs * (sv u).natAbs * sv r * (2 ^ 20 + 1) + 2 ^ 200 * 2 ^ 150
theorem fw {x p r : Nat} (hx : Fi x) (hp : Fi p) (hr : Fi r) (r1 : 2 ^ 149 ≤ sv r) (r2 : sv r ≤ 2 ^ 165) (x1 : sv x ≤ 2 ^ 156) (x2 : -(2 ^ 156) ≤ sv x) (p1 : sv p ≤ 2 ^ 159) (p2 : -(2 ^ 159) ≤ sv p) : Fw (sv x + sv p) r (fl (fdiv .f32 (fadd .f32 x p) r)) := by
  have F := FM_200
  have fr := add_fr hx hp (by omega) (by omega)
  have er := fr.err Nat.one_pos (by omega) (by omega)
  have s1 : 0 ≤ sv x + sv p → 0 ≤ sv (fadd .f32 x p) := fun g => fr.nonneg g
  have s2 : sv x + sv p ≤ 0 → sv (fadd .f32 x p) ≤ 0 := fun g => by
    have := fr.le 0 (by decide) (by rw [show rval F32 0 = 0 from rval_zero F32]; omega)
    rw [show rval F32 0 = 0 from rval_zero F32] at this
    exact this
  have zb : sv (fadd .f32 x p) ≤ 2 ^ 160 ∧ -(2 ^ 160) ≤ sv (fadd .f32 x p) := by
    generalize sv (fadd .f32 x p) = z at *
    clear fr
    omega
  obtain ⟨a,b,c,d,e,f⟩ := flow_sq fr.fi hr r1 r2 zb.1 zb.2
  refine ⟨a,b,fun g => c (s1 g),fun g => d (s2 g),?_,?_⟩
  · have q := Int.mul_nonneg (Int.mul_nonneg (show (0 : Int) ≤ (sv (fl (fdiv .f32 (fadd .f32 x p) r))).natAbs by omega) (show (0 : Int) ≤ (sv (fl (fdiv .f32 (fadd .f32 x p) r))).natAbs by omega)) (show 0 ≤ sv r by omega)
    generalize ((sv (fl (fdiv .f32 (fadd .f32 x p) r))).natAbs : Int) * (sv (fl (fdiv .f32 (fadd .f32 x p) r))).natAbs * sv r = A at *
    generalize sv (fadd .f32 x p) = z at *
    generalize sv x + sv p = y at *
    clear fr c d f
    have h1 : (z.natAbs : Int) * 2 ^ 23 ≤ y.natAbs * (2 ^ 23 + 1) + 2 ^ 23 := by omega
    generalize (z.natAbs : Int) = Z at *
    have y0 : (0 : Int) ≤ y.natAbs := by omega
    generalize (y.natAbs : Int) = Y at *
    clear er s1 s2 zb
    omega
  · have q := Int.mul_nonneg (Int.mul_nonneg (show (0 : Int) ≤ (sv (fl (fdiv .f32 (fadd .f32 x p) r))).natAbs by omega) (show (0 : Int) ≤ (sv (fl (fdiv .f32 (fadd .f32 x p) r))).natAbs by omega)) (show 0 ≤ sv r by omega)
    have h1 : ((sv x + sv p).natAbs : Int) * 2 ^ 23 ≤ (sv (fadd .f32 x p)).natAbs * 2 ^ 23 + (sv x + sv p).natAbs + 2 ^ 23 := by
      generalize sv (fadd .f32 x p) = z at *
      generalize sv x + sv p = y at *
      clear fr c d e f
      omega
    generalize ((sv (fl (fdiv .f32 (fadd .f32 x p) r))).natAbs : Int) * (sv (fl (fdiv .f32 (fadd .f32 x p) r))).natAbs * sv r = A at *
    have z0 : (0 : Int) ≤ (sv (fadd .f32 x p)).natAbs := by omega
    have y0 : (0 : Int) ≤ (sv x + sv p).natAbs := by omega
    generalize ((sv (fadd .f32 x p)).natAbs : Int) = Z at *
    generalize ((sv x + sv p).natAbs : Int) = Y at *
    clear fr c d e er s1 s2 zb
    omega
theorem Fw.bound {z : Int} {r u : Nat} (h : Fw z r u) (r1 : 2 ^ 149 ≤ sv r) (z1 : ((z).natAbs : Int) ≤ 1200 * 2 ^ 149) : ((sv u).natAbs : Int) ≤ 35 * 2 ^ 149 := by
  refine Int.not_lt.1 fun g => ?_
  have g1 : (35 * 2 ^ 149) * (35 * 2 ^ 149) ≤ ((sv u).natAbs : Int) * (sv u).natAbs := Int.mul_le_mul (by omega) (by omega) (by decide) (by omega)
  have g2 : (35 * 2 ^ 149) * (35 * 2 ^ 149) * 2 ^ 149 ≤ ((sv u).natAbs : Int) * (sv u).natAbs * sv r := Int.mul_le_mul g1 r1 (by decide) (Int.le_trans (by decide) g1)
  have := h.up
  generalize ((sv u).natAbs : Int) * (sv u).natAbs * sv r = a at *
  generalize ((z).natAbs : Int) = Z at *
  clear h g g1
  omega
def DA (D Δ : Int) : Prop := 2 * (Δ * 2 ^ 149 * 2 ^ 149 * (2 ^ 20 + 2)) + 2 ^ 200 * 2 ^ 155 ≤ D * D * (2 ^ 149 + 2 ^ 144) * (2 ^ 20 - 1)
end Go.Ab

namespace Go.Ab
open Ieee
set_option maxRecDepth 100000

theorem sv_cases {a : Nat} (h : Fi a) : ∃ r,r < 2139095040 ∧ (sv a = ((rval F32 r : Nat) : Int) ∨ sv a = -((rval F32 r : Nat) : Int)) := by
  refine ⟨a % 2147483648,h,?_⟩
  have := sv_abs a
  omega
def shr (x : Nat) : Nat := x * (2 ^ 23 + 1) / 2 ^ 24 + 1
end Go.Ab

namespace Go.Ab
open Ieee
set_option maxRecDepth 100000

structure Bd (a : Nat) (A : Int) : Prop where
  f : Fi a
  l : a < 4294967296
  hi : sv a ≤ A
  lo : -A ≤ sv a
theorem Bd.mono {a : Nat} {A B : Int} (h : Bd a A) (g : A ≤ B) : Bd a B := ⟨h.f,h.l,by have := h.hi; omega,by have := h.lo; omega⟩
theorem Bd.add {a b : Nat} {A B C : Int} (ha : Bd a A) (hb : Bd b B) (g : 2 * (A + B) + 1 ≤ C) (g2 : A + B ≤ 2 ^ 199) : Bd (fadd .f32 a b) C := by
  have F := FM_200
  have a1 := ha.hi
  have a2 := ha.lo
  have b1 := hb.hi
  have b2 := hb.lo
  have fr := add_fr ha.f hb.f (by omega) (by omega)
  have er := fr.err Nat.one_pos (by omega) (by omega)
  refine ⟨fr.fi,fr.lt,?_,?_⟩ <;>
  · clear fr F
    generalize sv (fadd .f32 a b) = z at *
    generalize sv a = x at *
    generalize sv b = y at *
    omega
theorem Bd.sub {a b : Nat} {A B C : Int} (ha : Bd a A) (hb : Bd b B) (g : 2 * (A + B) + 1 ≤ C) (g2 : A + B ≤ 2 ^ 199) : Bd (fsub .f32 a b) C := by
  have F := FM_200
  have a1 := ha.hi
  have a2 := ha.lo
  have b1 := hb.hi
  have b2 := hb.lo
  have fr := sub_fr ha.f hb.f (by omega) (by omega)
  have er := fr.err Nat.one_pos (by omega) (by omega)
  refine ⟨fr.fi,fr.lt,?_,?_⟩ <;>
  · clear fr F
    generalize sv (fsub .f32 a b) = z at *
    generalize sv a = x at *
    generalize sv b = y at *
    omega
theorem Bd.mul {a b : Nat} {A B C D : Int} (ha : Bd a A) (hb : Bd b B) (g : A * B ≤ D * 2 ^ 149) (g2 : 2 * D + 1 ≤ C) (g3 : D ≤ 2 ^ 190) : Bd (fmul .f32 a b) C := by
  have a1 := ha.hi
  have a2 := ha.lo
  have b1 := hb.hi
  have b2 := hb.lo
  have na : (((sv a).natAbs : Nat) : Int) ≤ A := by omega
  have nb : (((sv b).natAbs : Nat) : Int) ≤ B := by omega
  have np : (((sv a * sv b).natAbs : Nat) : Int) ≤ A * B := by
    rw [Int.natAbs_mul,Int.natCast_mul]
    exact Int.mul_le_mul na nb (Int.natCast_nonneg _) (by omega)
  have q : D * 2 ^ 149 ≤ 2 ^ 190 * 2 ^ 149 := Int.mul_le_mul_of_nonneg_right g3 (by decide)
  have q' : (2 : Int) ^ 190 * 2 ^ 149 ≤ 2 ^ 200 * 2 ^ 140 := by decide
  obtain ⟨m1,m2,_,_,m3,m4⟩ := mul_err ha.f hb.f (by omega) (by omega)
  refine ⟨m1,m2,?_,?_⟩ <;>
  · clear q q' a1 a2 b1 b2 na nb
    generalize sv (fmul .f32 a b) = z at *
    generalize sv a * sv b = x at *
    generalize A * B = y at *
    omega
theorem Fr_self {a h : Nat} (fr : Fr a (sv h) 1) (fh : Fi h) : sv a = sv h := by
  obtain ⟨r,hr,e | e⟩ := sv_cases fh
  · rw [e] at fr ⊢
    have k1 := fr.le r hr (by omega)
    have k2 := fr.ge r hr (by omega)
    omega
  · rw [e] at fr ⊢
    have k1 := fr.le' r hr (by omega)
    have k2 := fr.ge' r hr (by omega)
    omega
theorem add_zero {h x : Nat} (fh : Fi h) (fx : Fi x) (x0 : sv x = 0) (hb : (sv h).natAbs ≤ 2 ^ 190) : Fi (fadd .f32 h x) ∧ sv (fadd .f32 h x) = sv h := by
  have F := FM_200
  have fr := add_fr fh fx (by omega) (by omega)
  rw [x0,Int.add_zero] at fr
  exact ⟨fr.fi,Fr_self fr fh⟩
theorem mul_zero {y : Nat} (fy : Fi y) : Fi (fmul .f32 y 0) ∧ sv (fmul .f32 y 0) = 0 := by
  have z : sv 0 = 0 := by decide +kernel
  obtain ⟨m1,m2,m3,m4,_⟩ := mul_err (a := y) (b := 0) fy (by unfold Fi; decide) (by rw [z,Int.mul_zero]; decide) (by rw [z,Int.mul_zero]; decide)
  rw [z,Int.mul_zero] at m3 m4
  exact ⟨m1,by have := m3 (Int.le_refl _); have := m4 (Int.le_refl _); omega⟩
theorem add_z {h x y : Nat} (fh : Fi h) (h2 : h < 4294967296) (hz : h ≠ 2147483648) (hb : (sv h).natAbs ≤ 2 ^ 190) (z : Zq x y) (x2 : x < 4294967296) (y2 : y < 4294967296) : fadd .f32 h x = fadd .f32 h y := by
  rcases z with rfl | ⟨z1,z2⟩
  · rfl
  · by_cases h0 : h = 0
    · subst h0
      have ex : x = 0 ∨ x = 2147483648 := by omega
      have ey : y = 0 ∨ y = 2147483648 := by omega
      have c : fadd .f32 0 0 = fadd .f32 0 2147483648 := by decide +kernel
      rcases ex with rfl | rfl <;> rcases ey with rfl | rfl <;> simp [c]
    · rcases add_zq (.rfl' h) (show Zq x y from .inr ⟨z1,z2⟩) with e | ⟨e1,_⟩
      · exact e
      · exfalso
        have fx : Fi x := by unfold Fi; omega
        have sx : sv x = 0 := by
          have := sv_abs x
          rw [z1,show rval F32 0 = 0 from rval_zero F32] at this
          omega
        obtain ⟨_,k⟩ := add_zero fh fx sx hb
        have ks := sv_abs (fadd .f32 h x)
        rw [e1,show rval F32 0 = 0 from rval_zero F32] at ks
        have hs := sv_abs h
        have : rval F32 (h % 2147483648) = 0 := by omega
        have := rval_inj F32 (this.trans (rval_zero F32).symm)
        omega
end Go.Ab

namespace Go.Ab
open Ieee
set_option maxRecDepth 100000

theorem fmin_spec {a b : Nat} (ha : Nn a) (hb : Nn b) (a2 : a < 4294967296) (b2 : b < 4294967296) :
    Option.isSome ((FloatKind.format .f32).order a b) = true ∧ (fmin .f32 a b = a ∨ fmin .f32 a b = b) ∧ sv (fmin .f32 a b) ≤ sv a ∧ sv (fmin .f32 a b) ≤ sv b := by
  have l := flt_sv ha hb a2 b2
  have g := fgt_sv ha hb a2 b2
  have e := feq_sv ha hb a2 b2
  unfold flt at l
  unfold fgt at g
  unfold feq at e
  unfold fmin
  generalize (FloatKind.format .f32).order a b = r at *
  generalize hx : (FloatKind.decode .f32 a).neg = x
  clear hx
  match r with
  | none =>
    exfalso
    have l' := of_decide_eq_false l.symm
    have g' := of_decide_eq_false g.symm
    have e' := of_decide_eq_false e.symm
    omega
  | some .lt =>
    have l' := of_decide_eq_true (show decide (sv a < sv b) = true from l.symm)
    exact ⟨rfl,.inl rfl,by show sv a ≤ sv a; omega,by show sv a ≤ sv b; omega⟩
  | some .gt =>
    have l' := of_decide_eq_true (show decide (sv b < sv a) = true from g.symm)
    exact ⟨rfl,.inr rfl,by show sv b ≤ sv a; omega,by show sv b ≤ sv b; omega⟩
  | some .eq =>
    have l' := of_decide_eq_true (show decide (sv a = sv b) = true from e.symm)
    cases x with
    | true => exact ⟨rfl,.inl rfl,by show sv a ≤ sv a; omega,by show sv a ≤ sv b; omega⟩
    | false => exact ⟨rfl,.inr rfl,by show sv b ≤ sv a; omega,by show sv b ≤ sv b; omega⟩
theorem fmax_spec {a b : Nat} (ha : Nn a) (hb : Nn b) (a2 : a < 4294967296) (b2 : b < 4294967296) :
    Option.isSome ((FloatKind.format .f32).order a b) = true ∧ (fmax .f32 a b = a ∨ fmax .f32 a b = b) ∧ sv a ≤ sv (fmax .f32 a b) ∧ sv b ≤ sv (fmax .f32 a b) := by
  have l := flt_sv ha hb a2 b2
  have g := fgt_sv ha hb a2 b2
  have e := feq_sv ha hb a2 b2
  unfold flt at l
  unfold fgt at g
  unfold feq at e
  unfold fmax
  generalize (FloatKind.format .f32).order a b = r at *
  generalize hx : (FloatKind.decode .f32 a).neg = x
  clear hx
  match r with
  | none =>
    exfalso
    have l' := of_decide_eq_false l.symm
    have g' := of_decide_eq_false g.symm
    have e' := of_decide_eq_false e.symm
    omega
  | some .lt =>
    have l' := of_decide_eq_true (show decide (sv a < sv b) = true from l.symm)
    exact ⟨rfl,.inr rfl,by show sv a ≤ sv b; omega,by show sv b ≤ sv b; omega⟩
  | some .gt =>
    have l' := of_decide_eq_true (show decide (sv b < sv a) = true from g.symm)
    exact ⟨rfl,.inl rfl,by show sv a ≤ sv a; omega,by show sv b ≤ sv a; omega⟩
  | some .eq =>
    have l' := of_decide_eq_true (show decide (sv a = sv b) = true from e.symm)
    cases x with
    | true => exact ⟨rfl,.inr rfl,by show sv a ≤ sv b; omega,by show sv b ≤ sv b; omega⟩
    | false => exact ⟨rfl,.inl rfl,by show sv a ≤ sv a; omega,by show sv b ≤ sv a; omega⟩
noncomputable def iw (i : Nat) : Nat := ofInt .f32 ((i : Int) - 20)
theorem iw_all : ∀ i : Fin 620,ofInt .f32 ((i.val : Int) - 20) % 2147483648 < 2139095040 ∧ ofInt .f32 ((i.val : Int) - 20) < 4294967296 ∧ sv (ofInt .f32 ((i.val : Int) - 20)) = ((i.val : Int) - 20) * 2 ^ 149 ∧ ofInt .f32 ((i.val : Int) - 20) ≠ 2147483648 ∧
    sv (fsub .f32 (ofInt .f32 ((i.val : Int) - 20)) 1008981770) ≤ ((i.val : Int) - 20) * 2 ^ 149 - 2 ^ 142 ∧ ((i.val : Int) - 20) * 2 ^ 149 + 2 ^ 142 ≤ sv (fadd .f32 (ofInt .f32 ((i.val : Int) - 20)) 1008981770) ∧
    fsub .f32 (ofInt .f32 ((i.val : Int) - 20)) 1008981770 % 2147483648 < 2139095040 ∧ fadd .f32 (ofInt .f32 ((i.val : Int) - 20)) 1008981770 % 2147483648 < 2139095040 := by decide +kernel
structure Iw (a : Nat) : Prop where
  f : Fi a
  l : a < 4294967296
  nz : a ≠ 2147483648
  dn : sv (fsub .f32 a 1008981770) ≤ sv a - 2 ^ 142
  up : sv a + 2 ^ 142 ≤ sv (fadd .f32 a 1008981770)
  fd : Fi (fsub .f32 a 1008981770)
  fu : Fi (fadd .f32 a 1008981770)
  lo : -(20 * 2 ^ 149) ≤ sv a
  hi : sv a ≤ 600 * 2 ^ 149
theorem iw_ok {i : Nat} (h : i < 620) : Iw (iw i) ∧ sv (iw i) = ((i : Int) - 20) * 2 ^ 149 := by
  obtain ⟨h1,h2,h3,h4,h5,h6,h7,h8⟩ := iw_all ⟨i,h⟩
  have e : sv (iw i) = ((i : Int) - 20) * 2 ^ 149 := h3
  exact ⟨⟨h1,h2,h4,by rw [e]; exact h5,by rw [e]; exact h6,h7,h8,by rw [e]; omega,by rw [e]; omega⟩,e⟩
theorem Iw.mi {a b : Nat} (ha : Iw a) (hb : Iw b) : Option.isSome ((FloatKind.format .f32).order a b) = true ∧ Iw (fmin .f32 a b) ∧ sv (fmin .f32 a b) ≤ sv a ∧ sv (fmin .f32 a b) ≤ sv b := by
  obtain ⟨h1,h2,h3,h4⟩ := fmin_spec ha.f.nn hb.f.nn ha.l hb.l
  exact ⟨h1,by rcases h2 with e | e <;> rw [e] <;> assumption,h3,h4⟩
theorem Iw.ma {a b : Nat} (ha : Iw a) (hb : Iw b) : Option.isSome ((FloatKind.format .f32).order a b) = true ∧ Iw (fmax .f32 a b) ∧ sv a ≤ sv (fmax .f32 a b) ∧ sv b ≤ sv (fmax .f32 a b) := by
  obtain ⟨h1,h2,h3,h4⟩ := fmax_spec ha.f.nn hb.f.nn ha.l hb.l
  exact ⟨h1,by rcases h2 with e | e <;> rw [e] <;> assumption,h3,h4⟩
end Go.Ab
