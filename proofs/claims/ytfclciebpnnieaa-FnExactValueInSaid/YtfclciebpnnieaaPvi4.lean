/- The plain law of ValueIn. -/
import Derived.Test.YtfclciebpnnieaaPvi3
namespace Go.Proofs.Ytfclciebpnnieaa
open Go.Ab

theorem find_loops {l : List ByteArray} (hl : l.length ≤ 1048576) (s : ByteArray) : ∀ (k j fs fi : Nat), j + k = l.length → k < fs → k < fi →
    (r54l0b fs s (j : Int) l = (1, 0) ∧ r56l0b fi s ((l.length : Nat) : Int) (j : Int) l = (1, 0)) ∨ ∃ v : Nat, v < l.length ∧ r54l0b fs s (j : Int) l = (0, (v : Int)) ∧ r56l0b fi s ((l.length : Nat) : Int) (j : Int) l = (0, (v : Int)) := by
  intro k
  induction k with
  | zero =>
    intro j fs fi h hf1 hf2
    obtain ⟨m, rfl⟩ : ∃ m, fs = m + 1 := ⟨fs - 1, by omega⟩
    obtain ⟨m', rfl⟩ : ∃ m, fi = m + 1 := ⟨fi - 1, by omega⟩
    refine .inl ⟨?_, ?_⟩
    · show b54l0b (r54l0b m) _ _ _ = _
      unfold b54l0b
      rw [dlt_f (by omega)]; rfl
    · show b56l0b (r56l0b m') _ _ _ _ = _
      unfold b56l0b
      rw [dlt_f (by omega)]; rfl
  | succ k ih =>
    intro j fs fi h hf1 hf2
    obtain ⟨m, rfl⟩ : ∃ m, fs = m + 1 := ⟨fs - 1, by omega⟩
    obtain ⟨m', rfl⟩ : ∃ m, fi = m + 1 := ⟨fi - 1, by omega⟩
    have hj : j < l.length := by omega
    have e1 : r54l0b (m + 1) s (j : Int) l = cond ((l.getD j .empty).toList == s.toList) (0, (j : Int)) (r54l0b m s ((j + 1 : Nat) : Int) l) := by
      show b54l0b (r54l0b m) _ _ _ = _
      unfold b54l0b
      rw [dlt_t hj, dle0, Int.toNat_natCast, blt_t hj, wrap_succ (by omega)]; rfl
    have e2 : r56l0b (m' + 1) s ((l.length : Nat) : Int) (j : Int) l = cond ((l.getD j .empty).toList == s.toList) (0, (j : Int)) (r56l0b m' s ((l.length : Nat) : Int) ((j + 1 : Nat) : Int) l) := by
      show b56l0b (r56l0b m') _ _ _ _ = _
      unfold b56l0b
      rw [dlt_t hj, dle0, Int.toNat_natCast, blt_t hj, wrap_succ (by omega), BEq.comm (a := s.toList)]; rfl
    rw [e1, e2]
    cases (l.getD j .empty).toList == s.toList with
    | true => exact .inr ⟨j, hj, rfl, rfl⟩
    | false => exact ih (j + 1) m m' (by omega) (by omega) (by omega)
theorem find_both {l : List ByteArray} (hl : l.length ≤ 1048576) (s : ByteArray) : (r54b s l = (0, -1) ∧ r56b s l = (0, -1)) ∨ ∃ v : Nat, v < l.length ∧ r54b s l = (0, (v : Int)) ∧ r56b s l = (0, (v : Int)) := by
  rcases find_loops hl s l.length 0 (1000 + l.length + s.size) (1000 + l.length + s.size) (by omega) (by omega) (by omega) with ⟨g1, g2⟩ | ⟨v, g0, g1, g2⟩
  · have g1' : r54l0b (1000 + l.length + s.size) s 0 l = (1, 0) := g1
    have g2' : r56l0b (1000 + l.length + s.size) s ((l.length : Nat) : Int) 0 l = (1, 0) := g2
    refine .inl ⟨?_, ?_⟩
    · unfold r54b; rw [g1']; rfl
    · unfold r56b; rw [g2']; rfl
  · have g1' : r54l0b (1000 + l.length + s.size) s 0 l = (0, (v : Int)) := g1
    have g2' : r56l0b (1000 + l.length + s.size) s ((l.length : Nat) : Int) 0 l = (0, (v : Int)) := g2
    refine .inr ⟨v, g0, ?_, ?_⟩
    · unfold r54b; rw [g1']; rfl
    · unfold r56b; rw [g2']; rfl

theorem plain5 (x0 x1 x2 x3 : Nat) (x4 : ByteArray) (x5 : List ByteArray) (x6 : List (List Int)) (_ : FloatKind.f32.has x0) (_ : FloatKind.f32.has x1) (_ : FloatKind.f32.has x2) (_ : FloatKind.f32.has x3) (_ : x4.size ≤ 9223372036854775807) (s5 : ∀ s ∈ x5, s.size ≤ 9223372036854775807) (l5 : x5.length ≤ 9223372036854775807) (k6 : RowsOk S3 x6) (l6 : x6.length ≤ 9223372036854775807) : r5 x0 x1 x2 x3 x4 x5 x6 = (0, true) := by
  unfold r5
  cases decide (((((x4.size) : Nat) : Int) : Int) > 1048576) with
  | true => rfl
  | false =>
  obtain ⟨v, e, hv⟩ := szP s5 l5 l6 (show (0 : Int) ≤ 1048576 by decide) (Int.le_refl _)
  rw [e]
  rcases hv with rfl | ⟨g1, g2, g3, g4⟩
  · rfl
  rw [decide_eq_false (show ¬ v < 0 by omega), copyP k6 g3 g4]
  obtain ⟨b, c1, c2⟩ := valid_both s5 k6 g3 g4
  have key : ∃ y c, r17 x0 x1 x2 x3 x4 x5 x6 = (0, y, c) ∧ r19 x0 x1 x2 x3 x4 x5 x6 = (0, y, c) := by
    unfold r17 r19
    rw [c1, c2]
    cases b with
    | false => exact ⟨_, _, rfl, rfl⟩
    | true =>
      rcases find_both g3 x4 with ⟨q1, q2⟩ | ⟨j, q0, q1, q2⟩
      · rw [q1, q2]; exact ⟨_, _, rfl, rfl⟩
      · obtain ⟨w, w0, w1, w2⟩ := run_both k6 g4 g3 c1 x0 x1 x2 x3
        have w3 : r57 x0 x1 x2 x3 x5 x6 = (0, w) := by unfold r57; rw [w2]; rfl
        rw [q1, q2, w1, w3]
        simp only [Int.toNat_natCast]
        rw [dle0, blt_t (show j < w.length by omega), decide_eq_false (show ¬ ((j : Nat) : Int) < 0 by omega)]
        exact ⟨_, _, rfl, rfl⟩
  obtain ⟨y, c, d1, d2⟩ := key
  simp only [d1, d2, float_self, prog_self g3 g4, bne_self_eq_false]
  rfl
end Go.Proofs.Ytfclciebpnnieaa
