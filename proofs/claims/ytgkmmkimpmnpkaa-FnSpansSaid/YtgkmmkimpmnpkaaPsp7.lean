/- FnSpans: the plain law, joined. -/
import Derived.Test.YtgkmmkimpmnpkaaPsp6
namespace Go.Proofs.Ytgkmmkimpmnpkaa
open Go.Ab
theorem consts : feq .f32 1065353216 1065353216 = true ∧ feq .f32 1065353216 0 = false ∧ feq .f32 0 1065353216 = false ∧ feq .f32 0 0 = true := by decide +kernel
theorem zero_x : X 0 0 := Xb.x (by decide +kernel)
set_option maxHeartbeats 4000000 in
theorem plain3 (x0 x1 : List (List Int)) (k0 : RowsOk SU x0) (_ : x0.length ≤ 9223372036854775807) (k1 : RowsOk SU x1) (_ : x1.length ≤ 9223372036854775807) : r3 x0 x1 = (0, true) := by
  have q1 : Nat.beq 0 0 = true := rfl
  have q2 : ((0 : Int) != 0) = false := rfl
  have q3 : ((0 : Int) == 0) = true := rfl
  have q4 : ((6 : Int) == 0) = false := rfl
  have q5 : ((6 : Int) == 6) = true := rfl
  have q6 : ((6 : Int) != 0) = true := rfl
  by_cases h0 : x0.length ≤ 3000
  · by_cases h1 : x1.length ≤ 3000
    · have e0 : r4 x0 x1 = false := by
        unfold r4
        rw [decide_eq_false (show ¬ ((((x0.length : Nat) : Int) : Int) > 3000) by omega), decide_eq_false (show ¬ ((((x1.length : Nat) : Int) : Int) > 3000) by omega)]
        rfl
      obtain ⟨a, e5, ha⟩ := r5_ok k0 (by omega)
      obtain ⟨f1, f2, f3, f4, f5⟩ := any_ok a ha
      obtain ⟨s1, s2, t1, t2, p, q, A, B, N, C, D, M, e1, e2, e3, e4, H⟩ := draws k0 k1 (by omega) (by omega)
      have five : g2 x0 x1 = (0, true) := by
        unfold g2 g3 g4 g5 g6
        simp only [e1, e2, e3, e4, q1, cond_true]
        obtain ⟨z1, z2, z3, z4⟩ := consts
        have v1 := H.valid
        obtain ⟨ad1, ad2⟩ := H.add
        obtain ⟨su1, su2⟩ := H.sub
        obtain ⟨l, h, m1, m2, m3, m4, m5⟩ := H.mul
        obtain ⟨w1, w2⟩ := H.width
        obtain ⟨j1, j2, j3⟩ := H.join
        have fx := in_x H.xa H.xb H.xn H.l1 H.l2
        have fy := in_x H.xc H.xd H.xm H.l3 H.l4
        have L1 := H.l1; have L2 := H.l2; have L3 := H.l3; have L4 := H.l4
        have wlt : flt .f32 (fsub .f32 s2 s1) 0 = false := by rw [w2.lt_iff zero_x]; exact decide_eq_false (by omega)
        have weq := x_self w2
        have hy := in_val H.xa H.xb H.xm (by omega)
        have hlt := H.xn.lt_iff H.xm
        have hge := H.xn.ge_iff H.xm
        have hst := H.xb.lt_iff H.xc
        have hts := H.xd.lt_iff H.xa
        have me := H.meet
        have le := H.less
        have pm := hi_x H.xa H.xc
        have qm := lo_x H.xb H.xd
        have g1 := mx_ge (128 * A) (128 * C)
        have g2' := mn_le (128 * B) (128 * D)
        have my : mx (128 * A) (128 * C) ≤ mn (128 * B) (128 * D) → r17 s1 s2 (r40 s1 t1) = true ∧ r17 t1 t2 (r40 s1 t1) = true ∧ r17 s1 s2 (r41 s2 t2) = true ∧ r17 t1 t2 (r41 s2 t2) = true ∧ (128 * A ≤ 128 * M ∧ 128 * M ≤ 128 * B → r17 (r40 s1 t1) (r41 s2 t2) (fadd .f32 t1 (fmul .f32 (fdiv .f32 (ofInt .f32 p) 1098907648) (fsub .f32 t2 t1))) = true) := fun g =>
          ⟨in_x H.xa H.xb pm (by omega) (by omega), in_x H.xc H.xd pm (by omega) (by omega), in_x H.xa H.xb qm (by omega) (by omega), in_x H.xc H.xd qm (by omega) (by omega), fun ⟨_, _⟩ => in_x pm qm H.xm (by omega) (by omega)⟩
        generalize fadd .f32 s1 (fmul .f32 (fdiv .f32 (ofInt .f32 q) 1098907648) (fsub .f32 s2 s1)) = x at *
        generalize fadd .f32 t1 (fmul .f32 (fdiv .f32 (ofInt .f32 p) 1098907648) (fsub .f32 t2 t1)) = y at *
        simp only [v1, fx, fy, ad1, ad2, su1, su2, m1, m2, m3, m4, m5, w1, wlt, weq, j1, j2, j3, q1, q2, Bool.not_true, Bool.not_false, cond_true, cond_false, Bool.and_true]
        rw [hy, me, le, hlt, hge, hst, hts]
        by_cases gm : mx (128 * A) (128 * C) ≤ mn (128 * B) (128 * D)
        · obtain ⟨y1, y2, y3, y4, y5⟩ := my gm
          simp only [decide_eq_true gm, cond_true, y1, y2, y3, y4, q2, q3, Bool.not_true, cond_false]
          by_cases gy : 128 * A ≤ 128 * M ∧ 128 * M ≤ 128 * B
          · simp only [decide_eq_true gy, y5 gy, cond_true, Bool.not_true, cond_false]
            by_cases g3 : 128 * B < 128 * C
            · omega
            · by_cases g4 : 128 * D ≤ 128 * A
              · simp only [decide_eq_false g3, decide_eq_true g4, cond_true, cond_false, z1, z2, z3, z4, Bool.not_true, Bool.not_false, decide_eq_true (show 128 * M ≤ 128 * N by omega), q3]
              · simp only [decide_eq_false g3, decide_eq_false g4, cond_true, cond_false, z1, z2, z3, z4, Bool.not_true, Bool.not_false, q3]
          · simp only [decide_eq_false gy, cond_false]
            by_cases g3 : 128 * B < 128 * C
            · simp only [decide_eq_true g3, cond_true, cond_false, z1, z2, z3, z4, Bool.not_true, Bool.not_false, decide_eq_true (show 128 * N < 128 * M by omega), q3]
            · by_cases g4 : 128 * D ≤ 128 * A
              · simp only [decide_eq_false g3, decide_eq_true g4, cond_true, cond_false, z1, z2, z3, z4, Bool.not_true, Bool.not_false, decide_eq_true (show 128 * M ≤ 128 * N by omega), q3]
              · simp only [decide_eq_false g3, decide_eq_false g4, cond_true, cond_false, z1, z2, z3, z4, Bool.not_true, Bool.not_false, q3]
        · have gy : ¬ (128 * A ≤ 128 * M ∧ 128 * M ≤ 128 * B) := by omega
          simp only [decide_eq_false gm, decide_eq_false gy, cond_false, q3, q4, q5, q6, cond_true]
          by_cases g3 : 128 * B < 128 * C
          · simp only [decide_eq_true g3, cond_true, cond_false, z1, z2, z3, z4, Bool.not_true, Bool.not_false, decide_eq_true (show 128 * N < 128 * M by omega), q3]
          · have g5 : 128 * D < 128 * A := by omega
            simp only [decide_eq_false g3, decide_eq_true g5, decide_eq_true (show 128 * D ≤ 128 * A by omega), cond_true, cond_false, z1, z2, z3, z4, Bool.not_true, Bool.not_false, decide_eq_true (show 128 * M ≤ 128 * N by omega), q3]
      unfold r3 g1
      simp only [e0, e5, q1, cond_false, cond_true, f1, f2, f3, f4, Bool.not_true, five]
      cases hf : feq .f32 a a with
      | false => rfl
      | true => rw [f5 hf]; rfl
    · unfold r3 r4
      rw [decide_eq_true (show ((((x1.length : Nat) : Int) : Int) > 3000) by omega)]
      cases decide ((((x0.length : Nat) : Int) : Int) > 3000) <;> rfl
  · unfold r3 r4
    rw [decide_eq_true (show ((((x0.length : Nat) : Int) : Int) > 3000) by omega)]
    rfl
end Go.Proofs.Ytgkmmkimpmnpkaa
