/- Products of spans. -/
import Derived.Test.YtgkmmkimpmnpkaaPsp4
namespace Go.Proofs.Ytgkmmkimpmnpkaa
open Go.Ab
theorem prod_box {A B N C D M : Int} (h1 : A ≤ N) (h2 : N ≤ B) (h3 : C ≤ M) (h4 : M ≤ D) : (A * C ≤ N * M ∨ A * D ≤ N * M ∨ B * C ≤ N * M ∨ B * D ≤ N * M) ∧ (N * M ≤ A * C ∨ N * M ≤ A * D ∨ N * M ≤ B * C ∨ N * M ≤ B * D) := by
  rcases Int.le_total 0 M with hM | hM
  · have k1 := Int.mul_le_mul_of_nonneg_right h1 hM
    have k2 := Int.mul_le_mul_of_nonneg_right h2 hM
    constructor
    · rcases Int.le_total 0 A with hA | hA
      · exact .inl (Int.le_trans (Int.mul_le_mul_of_nonneg_left h3 hA) k1)
      · exact .inr (.inl (Int.le_trans (Int.mul_le_mul_of_nonpos_left hA h4) k1))
    · rcases Int.le_total 0 B with hB | hB
      · exact .inr (.inr (.inr (Int.le_trans k2 (Int.mul_le_mul_of_nonneg_left h4 hB))))
      · exact .inr (.inr (.inl (Int.le_trans k2 (Int.mul_le_mul_of_nonpos_left hB h3))))
  · have k1 := Int.mul_le_mul_of_nonpos_right h1 hM
    have k2 := Int.mul_le_mul_of_nonpos_right h2 hM
    constructor
    · rcases Int.le_total 0 B with hB | hB
      · exact .inr (.inr (.inl (Int.le_trans (Int.mul_le_mul_of_nonneg_left h3 hB) k2)))
      · exact .inr (.inr (.inr (Int.le_trans (Int.mul_le_mul_of_nonpos_left hB h4) k2)))
    · rcases Int.le_total 0 A with hA | hA
      · exact .inr (.inl (Int.le_trans k1 (Int.mul_le_mul_of_nonneg_left h4 hA)))
      · exact .inl (Int.le_trans k1 (Int.mul_le_mul_of_nonpos_left hA h3))
theorem prod_small {N M : Int} (h1 : -1536 ≤ N) (h2 : N ≤ 1536) (h3 : -1536 ≤ M) (h4 : M ≤ 1536) : -16777216 < N * M ∧ N * M < 16777216 := by
  obtain ⟨g1, g2⟩ := prod_box h1 h2 h3 h4
  omega
theorem mul_x {N M : Int} {u v : Nat} (hu : X (128 * N) u) (hv : X (128 * M) v) (h1 : -1536 ≤ N) (h2 : N ≤ 1536) (h3 : -1536 ≤ M) (h4 : M ≤ 1536) : X (N * M) (fmul .f32 u v) := by
  obtain ⟨g1, g2⟩ := prod_small h1 h2 h3 h4
  refine hu.mul hv ?_ g1 g2
  rw [show (128 * N * (128 * M) : Int) = 128 * 128 * (N * M) by ac_rfl, Int.mul_comm]
  rfl
theorem x_self {n : Int} {a : Nat} (h : X n a) : feq .f32 a a = true := by rw [h.eq_iff h]; exact decide_eq_true rfl
theorem mn4 {p q r s z : Int} (g : p ≤ z ∨ q ≤ z ∨ r ≤ z ∨ s ≤ z) : mn (mn (mn (mn p p) q) r) s ≤ z := by
  have a1 := (mn_le p p).1
  have a2 := mn_le (mn p p) q
  have a3 := mn_le (mn (mn p p) q) r
  have a4 := mn_le (mn (mn (mn p p) q) r) s
  have b1 := a2.1; have b2 := a2.2.1; have b3 := a3.1; have b4 := a3.2.1; have b5 := a4.1; have b6 := a4.2.1
  clear a2 a3 a4
  rcases g with g | g | g | g <;> omega
theorem mx4 {p q r s z : Int} (g : z ≤ p ∨ z ≤ q ∨ z ≤ r ∨ z ≤ s) : z ≤ mx (mx (mx (mx p p) q) r) s := by
  have a1 := (mx_ge p p).1
  have a2 := mx_ge (mx p p) q
  have a3 := mx_ge (mx (mx p p) q) r
  have a4 := mx_ge (mx (mx (mx p p) q) r) s
  have b1 := a2.1; have b2 := a2.2.1; have b3 := a3.1; have b4 := a3.2.1; have b5 := a4.1; have b6 := a4.2.1
  clear a2 a3 a4
  rcases g with g | g | g | g <;> omega
noncomputable def loW (s1 s2 t1 t2 : Nat) : Nat := r41 (r41 (r41 (r41 (fmul .f32 s1 t1) (fmul .f32 s1 t1)) (fmul .f32 s1 t2)) (fmul .f32 s2 t1)) (fmul .f32 s2 t2)
noncomputable def hiW (s1 s2 t1 t2 : Nat) : Nat := r40 (r40 (r40 (r40 (fmul .f32 s1 t1) (fmul .f32 s1 t1)) (fmul .f32 s1 t2)) (fmul .f32 s2 t1)) (fmul .f32 s2 t2)
theorem mul_impl {s1 s2 t1 t2 : Nat} (h0 : r39 s1 s2 t1 t2 = true) (h1 : feq .f32 (fmul .f32 s1 t1) (fmul .f32 s1 t1) = true) (h2 : feq .f32 (fmul .f32 s1 t2) (fmul .f32 s1 t2) = true) (h3 : feq .f32 (fmul .f32 s2 t1) (fmul .f32 s2 t1) = true) (h4 : feq .f32 (fmul .f32 s2 t2) (fmul .f32 s2 t2) = true) : r15 s1 s2 t1 t2 = (0, r7 (loW s1 s2 t1 t2), r6 (hiW s1 s2 t1 t2), 0) := by
  unfold r15 r31c r34 loW hiW
  simp only [h0, h1, h2, h3, h4, Bool.not_true, cond_false, show Nat.beq 0 0 = true from rfl, cond_true]
theorem mul_spec {s1 s2 t1 t2 : Nat} (v1 : r51 s1 s2 = true) (v2 : r51 t1 t2 = true) (h1 : feq .f32 (fmul .f32 s1 t1) (fmul .f32 s1 t1) = true) (h2 : feq .f32 (fmul .f32 s1 t2) (fmul .f32 s1 t2) = true) (h3 : feq .f32 (fmul .f32 s2 t1) (fmul .f32 s2 t1) = true) (h4 : feq .f32 (fmul .f32 s2 t2) (fmul .f32 s2 t2) = true) : r18 s1 s2 t1 t2 = (0, r29 (loW s1 s2 t1 t2), r28 (hiW s1 s2 t1 t2), 0) := by
  unfold r18 r35 r36 loW hiW
  simp only [step_e _ _ h4 h3 h2 h1, v1, v2, Bool.not_true, cond_false, show Nat.beq 0 0 = true from rfl, show Nat.beq 1 0 = false from rfl, show Nat.beq 1 1 = true from rfl, cond_true, show ((0 : Int) != 0) = false from rfl]
theorem Two.mul {A B N C D M : Int} {s1 s2 x t1 t2 y : Nat} (H : Two (128 * A) (128 * B) (128 * N) (128 * C) (128 * D) (128 * M) s1 s2 x t1 t2 y) : ∃ l h, r15 s1 s2 t1 t2 = (0, r7 l, r6 h, 0) ∧ r18 s1 s2 t1 t2 = (0, r7 l, r6 h, 0) ∧ r17 (r7 l) (r6 h) (fmul .f32 x y) = true ∧ feq .f32 (r7 l) (r7 l) = true ∧ feq .f32 (r6 h) (r6 h) = true := by
  have := H.l1; have := H.l2; have := H.l3; have := H.l4; have := H.b1; have := H.b2; have := H.b3; have := H.b4
  have p1 := mul_x H.xa H.xc (by omega) (by omega) (by omega) (by omega)
  have p2 := mul_x H.xa H.xd (by omega) (by omega) (by omega) (by omega)
  have p3 := mul_x H.xb H.xc (by omega) (by omega) (by omega) (by omega)
  have p4 := mul_x H.xb H.xd (by omega) (by omega) (by omega) (by omega)
  have pz := mul_x H.xn H.xm (by omega) (by omega) (by omega) (by omega)
  obtain ⟨g1, g2⟩ := prod_box (A := A) (B := B) (N := N) (C := C) (D := D) (M := M) (by omega) (by omega) (by omega) (by omega)
  have lo : X _ (loW s1 s2 t1 t2) := lo_x (lo_x (lo_x (lo_x p1 p1) p2) p3) p4
  have hi : X _ (hiW s1 s2 t1 t2) := hi_x (hi_x (hi_x (hi_x p1 p1) p2) p3) p4
  have LO := mn4 g1
  have HI := mx4 g2
  obtain ⟨d1, d2, d3⟩ := down_kk _ lo.lt lo.nn lo.top.2
  obtain ⟨e1, e2, e3⟩ := up_kk _ hi.lt hi.nn hi.top.1
  refine ⟨loW s1 s2 t1 t2, hiW s1 s2 t1 t2, mul_impl H.are (x_self p1) (x_self p2) (x_self p3) (x_self p4), ?_, in_out lo hi pz LO HI, by rw [feq_kk d2 d2 d1 d1]; exact decide_eq_true rfl, by rw [feq_kk e2 e2 e1 e1]; exact decide_eq_true rfl⟩
  rw [mul_spec H.valid H.valid2 (x_self p1) (x_self p2) (x_self p3) (x_self p4)]
  have z1 : r7 (loW s1 s2 t1 t2) = r29 (loW s1 s2 t1 t2) := down_eq _ lo.lt
  have z2 : r6 (hiW s1 s2 t1 t2) = r28 (hiW s1 s2 t1 t2) := up_eq _ hi.lt
  rw [z1, z2]
end Go.Proofs.Ytgkmmkimpmnpkaa
