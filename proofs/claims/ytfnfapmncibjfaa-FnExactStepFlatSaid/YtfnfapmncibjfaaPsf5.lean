/- The plain law of StepFlat. -/
import Derived.Test.YtfnfapmncibjfaaPsf4
namespace Go.Proofs.Ytfnfapmncibjfaa
open Go.Ab

theorem plain9 (x0 x1 x2 : Nat) (x3 x4 x5 x6 x7 : List (List Int)) (h0 : FloatKind.f32.has x0) (h1 : FloatKind.f32.has x1) (h2 : FloatKind.f32.has x2) (k3 : RowsOk S1 x3) (l3 : x3.length ≤ 9223372036854775807) (k4 : RowsOk S1 x4) (l4 : x4.length ≤ 9223372036854775807) (k5 : RowsOk S8 x5) (l5 : x5.length ≤ 9223372036854775807) (k6 : RowsOk S4 x6) (l6 : x6.length ≤ 9223372036854775807) (k7 : RowsOk S1 x7) (l7 : x7.length ≤ 9223372036854775807) : r9 x0 x1 x2 x3 x4 x5 x6 x7 = (0, true) := by
  unfold r9
  by_cases hx : (((x7.length : Nat) : Int) : Int) > 1048576
  · rw [decide_eq_true hx]; rfl
  rw [decide_eq_false hx]
  have hl7 : x7.length ≤ 1048576 := by omega
  rcases szF l3 l4 l5 l6 with g | ⟨g, g2, g3, g4, g5⟩
  · rw [decide_eq_true g]; rfl
  rw [decide_eq_false (show ¬ r23 1048576 x3 x4 x5 x6 < 0 by omega), copyF k3 k4 k5 k6 g2 g3 g4 g5, copy30 k7 hl7]
  obtain ⟨a', b', c', d', m1, _⟩ := markF g2 g3 g4 g5
  have hs := flat_self g2 g3 g4 g5
  have hp := mTop_pos x3 x4 x5 x6
  have hq : mTop x3 x4 x5 x6 ≤ 20000000 := by unfold mTop; omega
  have m2 := mk33 (k := mTop x3 x4 x5 x6) hl7 hp (by omega)
  have m0 : r37 1 = 1 := by unfold r37; rfl
  have hself7 := self31 hl7
  obtain ⟨c, c1, c2, c3⟩ := code_both (a := x0) (b := x1) hl7 (has32 h1) k4 k5 k6 g2 g3 g4 g5
  have key : (∃ c, r49 x0 x1 x2 x3 x4 x5 x6 x7 = (0, c, 0, [], [], [], []) ∧ r19 x0 x1 x2 x3 x4 x5 x6 x7 = (0, c, 0, [], [], [], [])) ∨ ∃ y p0 p1 p2 p3, p0.length ≤ 1048576 ∧ p1.length ≤ 1048576 ∧ p2.length ≤ 1048576 ∧ p3.length ≤ 1048576 ∧ r49 x0 x1 x2 x3 x4 x5 x6 x7 = (1, 0, y, p0, p1, p2, p3) ∧ r19 x0 x1 x2 x3 x4 x5 x6 x7 = (1, 0, y, p0, p1, p2, p3) := by
    unfold r49 r19
    rw [c1, c2, time_eq x2 (has32 h2)]
    dsimp only
    by_cases hc : c = 0
    · obtain ⟨ok, hg⟩ := c3 hc
      rw [show (c != 0) = false from by rw [bne_eq_false_iff_eq]; exact hc]
      cases r100 x2 with
      | false => exact .inl ⟨2, rfl, rfl⟩
      | true =>
        obtain ⟨v, v0, v1, v2⟩ := step_both ok hg k4 k5 k6 x0 x1 x2
        rw [v1, v2]
        have hH := nHeat_len x0 x1 x2 x7 x3 x4 x5 x6
        have hW := nWall_len x0 x2 x3 x5
        cases v with
        | false =>
          refine .inl ⟨4, rfl, ?_⟩
          cases r102 (nLoss x0 x2 x3 x5 x6) <;> rfl
        | true =>
          cases r102 (nLoss x0 x2 x3 x5 x6) with
          | false => exact .inl ⟨4, rfl, rfl⟩
          | true => exact .inr ⟨nLoss x0 x2 x3 x5 x6, nHeat x0 x1 x2 x7 x3 x4 x5 x6, x4, nWall x0 x2 x3 x5, x6, by rw [hH]; exact g2, g3, by rw [hW]; exact g4, g5, rfl, rfl⟩
    · rw [show (c != 0) = true from by rw [bne_iff_ne]; exact hc]
      exact .inl ⟨c, rfl, rfl⟩
  rcases key with ⟨c, d1, d2⟩ | ⟨y, p0, p1, p2, p3, e0, e1, e2, e3, d1, d2⟩
  · have hz := float_self 0
    simp only [d1, d2, hs, m1, m2, m0, hself7, hz, bne_self_eq_false]
    rw [decide_eq_false (show ¬ mTop x3 x4 x5 x6 + 1 * (x7.length : Int) < 0 by omega)]
    rfl
  · obtain ⟨a2, b2, c2', d2', n1, n2⟩ := markF e0 e1 e2 e3
    have hs2 := flat_self e0 e1 e2 e3
    have hq2 := mTop_pos p0 p1 p2 p3
    have hy := float_self (widen y)
    simp only [d1, d2, hs, hs2, m1, m2, n1, n2, hself7, hy, bne_self_eq_false]
    rw [decide_eq_false (show ¬ mTop x3 x4 x5 x6 + 1 * (x7.length : Int) < 0 by omega), decide_eq_false (show ¬ mTop p0 p1 p2 p3 < 0 by omega)]
    rfl
end Go.Proofs.Ytfnfapmncibjfaa
