/- The plain law of SetPane. -/
import Derived.Test.YtfnfapmncibjfaaPpa2
namespace Go.Proofs.Ytfnfapmncibjfaa
open Go.Ab

theorem upto_eq (d m : Nat) (h : d < 4294967296) (hm : isN .f32 m = false) : r67 d m = (r88 d && !(fgt .f32 d m)) := by
  unfold r67
  rw [amt d h, (amount_eq d h).2]
  by_cases h1 : d < 2139095040
  · have hn : isN .f32 d = false := by rw [isN32, decide_eq_false_iff_not]; omega
    rw [decide_eq_true h1, fgt_key .f32 d m hn hm, flt_key .f32 d m hn hm, feq_key .f32 d m hn hm]
    generalize key FloatKind.f32.format d = x
    generalize key FloatKind.f32.format m = y
    rcases Int.lt_trichotomy x y with g | g | g
    · have g2 : ¬ y < x := by omega
      simp [g, g2]
    · subst g; simp
    · have g2 : ¬ x < y := by omega
      have g3 : ¬ x = y := by omega
      simp [g, g2, g3]
  · rw [decide_eq_false h1]; rfl
section
variable {x2 x3 x4 x5 : List (List Int)} (l2 : x2.length ≤ 1048576) (l3 : x3.length ≤ 1048576) (l4 : x4.length ≤ 1048576) (l5 : x5.length ≤ 1048576)
include l2 l3 l4 l5
theorem ownS : r59 x2 x3 x4 x5 = (0, x2, x3, x4, x5) := by
  unfold r59
  have b1 : Nat.ble ((0 + x2.length) * 5) 140737488355328 = true := Nat.ble_eq_true_of_le (by omega)
  have b2 : Nat.ble ((0 + x3.length) * 5) 140737488355328 = true := Nat.ble_eq_true_of_le (by omega)
  have b3 : Nat.ble ((0 + x4.length) * 41) 140737488355328 = true := Nat.ble_eq_true_of_le (by omega)
  have b4 : Nat.ble ((0 + x5.length) * 25) 140737488355328 = true := Nat.ble_eq_true_of_le (by omega)
  rw [b1, b2, b3, b4]; rfl
theorem ownI : r73 x2 x3 x4 x5 = (0, x2, x3, x4, x5) := ownS l2 l3 l4 l5
end
theorem plain6 (x0 : Int) (x1 : Nat) (x2 x3 x4 x5 : List (List Int)) (_ : IntKind.i64.has x0) (h1 : FloatKind.f32.has x1) (k2 : RowsOk S1 x2) (l2 : x2.length ≤ 9223372036854775807) (k3 : RowsOk S1 x3) (l3 : x3.length ≤ 9223372036854775807) (k4 : RowsOk S8 x4) (l4 : x4.length ≤ 9223372036854775807) (k5 : RowsOk S4 x5) (l5 : x5.length ≤ 9223372036854775807) : r6 x0 x1 x2 x3 x4 x5 = (0, true) := by
  unfold r6
  rcases szF l2 l3 l4 l5 with g | ⟨g, g2, g3, g4, g5⟩
  · rw [decide_eq_true g]; rfl
  rw [decide_eq_false (show ¬ r23 1048576 x2 x3 x4 x5 < 0 by omega), copyF k2 k3 k4 k5 g2 g3 g4 g5]
  obtain ⟨b, v1, v2, v3⟩ := valid_both k3 k4 k5 g2 g3 g4 g5
  obtain ⟨a', b', c', d', m1, _⟩ := markF g2 g3 g4 g5
  have m0 : r37 1 = 1 := by unfold r37; rfl
  have hs := flat_self g2 g3 g4 g5
  have hp := mTop_pos x2 x3 x4 x5
  have key : (∃ c, r35 x0 x1 x2 x3 x4 x5 = (0, c, [], [], [], []) ∧ r36 x0 x1 x2 x3 x4 x5 = (0, c, [], [], [], [])) ∨ ∃ p, p.length = x5.length ∧ r35 x0 x1 x2 x3 x4 x5 = (1, 0, x2, x3, x4, p) ∧ r36 x0 x1 x2 x3 x4 x5 = (1, 0, x2, x3, x4, p) := by
    unfold r35 r36
    rw [v1, v2]
    cases b with
    | false => exact .inl ⟨1, rfl, rfl⟩
    | true =>
    by_cases h0 : x0 < 0
    · have e : r87 x0 0 (IntKind.i64.wrap (((x5.length : Nat) : Int) - 1)) = false := by unfold r87; rw [decide_eq_false (show ¬ (x0 ≥ 0) by omega)]; rfl
      rw [e, decide_eq_true h0]; exact .inl ⟨2, rfl, rfl⟩
    have hw : IntKind.i64.wrap (((x5.length : Nat) : Int) - 1) = ((x5.length : Nat) : Int) - 1 := wrap_i64 (by omega) (by omega)
    by_cases hx : x0 ≥ ((x5.length : Nat) : Int)
    · have e : r87 x0 0 (IntKind.i64.wrap (((x5.length : Nat) : Int) - 1)) = false := by rw [hw]; unfold r87; rw [decide_eq_true (show (x0 ≥ 0) by omega), decide_eq_false (show ¬ (x0 ≤ ((x5.length : Nat) : Int) - 1) by omega)]; rfl
      rw [e, decide_eq_false h0, decide_eq_true hx]; exact .inl ⟨2, rfl, rfl⟩
    have e : r87 x0 0 (IntKind.i64.wrap (((x5.length : Nat) : Int) - 1)) = true := by rw [hw]; unfold r87; rw [decide_eq_true (show (x0 ≥ 0) by omega), decide_eq_true (show (x0 ≤ ((x5.length : Nat) : Int) - 1) by omega)]; rfl
    rw [e, decide_eq_false h0, decide_eq_false hx, upto_eq x1 1120403456 (has32 h1) (by decide)]
    cases r88 x1 with
    | false => exact .inl ⟨2, rfl, rfl⟩
    | true =>
    cases fgt .f32 x1 1120403456 with
    | true => exact .inl ⟨2, rfl, rfl⟩
    | false =>
      rw [ownS g2 g3 g4 g5, ownI g2 g3 g4 g5]
      dsimp only
      rw [decide_eq_true (show (0 : Int) ≤ x0 by omega), blt_t (show x0.toNat < x5.length by omega)]
      exact .inr ⟨x5.modify x0.toNat (fun r => spl 4 r 2 [((x1 : Nat) : Int)]), by simp, rfl, rfl⟩
  rcases key with ⟨c, d1, d2⟩ | ⟨p, hp', d1, d2⟩
  · simp only [d1, d2, hs, m1, m0, bne_self_eq_false]
    rw [decide_eq_false (show ¬ mTop x2 x3 x4 x5 < 0 by omega)]
    rfl
  · obtain ⟨a2, b2, c2, d2', n1, n2⟩ := markF g2 g3 g4 (d := p) (by omega)
    have hs2 := flat_self g2 g3 g4 (x3 := p) (by omega)
    have hq := mTop_pos x2 x3 x4 p
    simp only [d1, d2, hs, hs2, m1, n1, n2, bne_self_eq_false]
    rw [decide_eq_false (show ¬ mTop x2 x3 x4 x5 < 0 by omega), decide_eq_false (show ¬ mTop x2 x3 x4 p < 0 by omega)]
    rfl
end Go.Proofs.Ytfnfapmncibjfaa
