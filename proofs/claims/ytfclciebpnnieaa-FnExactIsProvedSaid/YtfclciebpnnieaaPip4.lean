/- The plain law of IsProved. -/
import Derived.Test.YtfclciebpnnieaaPip3
namespace Go.Proofs.Ytfclciebpnnieaa
open Go.Ab

theorem find_loops {l : List ByteArray} (hl : l.length ≤ 1048576) (s : ByteArray) : ∀ (k j fs fi : Nat), j + k = l.length → k < fs → k < fi →
    (r54l0b fs s (j : Int) l = (1, 0) ∧ r56l0b fi s ((l.length : Nat) : Int) (j : Int) l = (1, 0)) ∨ ∃ v : Nat, v < l.length ∧ r54l0b fs s (j : Int) l = (0, (v : Int)) ∧ r56l0b fi s ((l.length : Nat) : Int) (j : Int) l = (0, (v : Int)) := by
  intro k
  induction k with
  | zero =>
    intro j fs fi h hf1 hf2
    obtain ⟨m, rfl⟩ : ∃ m, fs = m + 1 := ⟨fs - 1, by omega⟩
    obtain ⟨m', rfl⟩ : ∃ m, fi = m + 1 := ⟨fi - 1, by omega⟩
    refine .inl ⟨?_, ?_⟩
    · show b54l0b (r54l0b m) _ _ _ = _
      unfold b54l0b
      rw [dlt_f (by omega)]; rfl
    · show b56l0b (r56l0b m') _ _ _ _ = _
      unfold b56l0b
      rw [dlt_f (by omega)]; rfl
  | succ k ih =>
    intro j fs fi h hf1 hf2
    obtain ⟨m, rfl⟩ : ∃ m, fs = m + 1 := ⟨fs - 1, by omega⟩
    obtain ⟨m', rfl⟩ : ∃ m, fi = m + 1 := ⟨fi - 1, by omega⟩
    have hj : j < l.length := by omega
    have e1 : r54l0b (m + 1) s (j : Int) l = cond ((l.getD j .empty).toList == s.toList) (0, (j : Int)) (r54l0b m s ((j + 1 : Nat) : Int) l) := by
      show b54l0b (r54l0b m) _ _ _ = _
      unfold b54l0b
      rw [dlt_t hj, dle0, Int.toNat_natCast, blt_t hj, wrap_succ (by omega)]; rfl
    have e2 : r56l0b (m' + 1) s ((l.length : Nat) : Int) (j : Int) l = cond ((l.getD j .empty).toList == s.toList) (0, (j : Int)) (r56l0b m' s ((l.length : Nat) : Int) ((j + 1 : Nat) : Int) l) := by
      show b56l0b (r56l0b m') _ _ _ _ = _
      unfold b56l0b
      rw [dlt_t hj, dle0, Int.toNat_natCast, blt_t hj, wrap_succ (by omega), BEq.comm (a := s.toList)]; rfl
    rw [e1, e2]
    cases (l.getD j .empty).toList == s.toList with
    | true => exact .inr ⟨j, hj, rfl, rfl⟩
    | false => exact ih (j + 1) m m' (by omega) (by omega) (by omega)
theorem find_both {l : List ByteArray} (hl : l.length ≤ 1048576) (s : ByteArray) : (r54b s l = (0, -1) ∧ r56b s l = (0, -1)) ∨ ∃ v : Nat, v < l.length ∧ r54b s l = (0, (v : Int)) ∧ r56b s l = (0, (v : Int)) := by
  rcases find_loops hl s l.length 0 (1000 + l.length + s.size) (1000 + l.length + s.size) (by omega) (by omega) (by omega) with ⟨g1, g2⟩ | ⟨v, g0, g1, g2⟩
  · have g1' : r54l0b (1000 + l.length + s.size) s 0 l = (1, 0) := g1
    have g2' : r56l0b (1000 + l.length + s.size) s ((l.length : Nat) : Int) 0 l = (1, 0) := g2
    refine .inl ⟨?_, ?_⟩
    · unfold r54b; rw [g1']; rfl
    · unfold r56b; rw [g2']; rfl
  · have g1' : r54l0b (1000 + l.length + s.size) s 0 l = (0, (v : Int)) := g1
    have g2' : r56l0b (1000 + l.length + s.size) s ((l.length : Nat) : Int) 0 l = (0, (v : Int)) := g2
    refine .inr ⟨v, g0, ?_, ?_⟩
    · unfold r54b; rw [g1']; rfl
    · unfold r56b; rw [g2']; rfl

/-! ### what is given -/
theorem fin2 (x y : Nat) : r51b x y = (r70 x && r70 y) := by
  have e : r51b x y = (r51 x && r51 y) := by
    unfold r51b r51
    cases r79 (widen x) <;> cases r80 (widen x) 0 <;> cases r79 (widen y) <;> cases r80 (widen y) 0 <;> rfl
  rw [e, finI, finI, finS, finS]
theorem given_eq {l : List ByteArray} {o : List (List Int)} (h : r48 l o = (0, true)) (x0 x1 x2 x3 x4 x5 x6 x7 : Nat) : ∃ b, r64 x0 x1 x2 x3 x4 x5 x6 x7 = b ∧ r67 x0 x1 x2 x3 x4 x5 x6 x7 l o = (0, cond b 0 2) := by
  have e63 : ∀ x y, r63 x y = r71 x y := fun _ _ => rfl
  unfold r64 r67
  rw [h]
  simp only [fin2, e63]
  generalize r71 x0 x1 = b0
  generalize r70 x0 = b1
  generalize r70 x1 = b2
  generalize r71 x2 x3 = b3
  generalize r70 x2 = b4
  generalize r70 x3 = b5
  generalize r71 x4 x5 = b6
  generalize r70 x4 = b7
  generalize r70 x5 = b8
  generalize r71 x6 x7 = b9
  generalize r70 x6 = b10
  generalize r70 x7 = b11
  cases b0 with
  | false => exact ⟨_, rfl, rfl⟩
  | true =>
  cases b1 with
  | false => exact ⟨_, rfl, rfl⟩
  | true =>
  cases b2 with
  | false => exact ⟨_, rfl, rfl⟩
  | true =>
  cases b3 with
  | false => exact ⟨_, rfl, rfl⟩
  | true =>
  cases b4 with
  | false => exact ⟨_, rfl, rfl⟩
  | true =>
  cases b5 with
  | false => exact ⟨_, rfl, rfl⟩
  | true =>
  cases b6 with
  | false => exact ⟨_, rfl, rfl⟩
  | true =>
  cases b7 with
  | false => exact ⟨_, rfl, rfl⟩
  | true =>
  cases b8 with
  | false => exact ⟨_, rfl, rfl⟩
  | true =>
  cases b9 with
  | false => exact ⟨_, rfl, rfl⟩
  | true =>
  cases b10 with
  | false => exact ⟨_, rfl, rfl⟩
  | true =>
  cases b11 with
  | false => exact ⟨_, rfl, rfl⟩
  | true =>
  exact ⟨_, rfl, rfl⟩


theorem plain7 (x0 x1 x2 x3 x4 x5 x6 x7 : Nat) (x8 : ByteArray) (x9 x10 : Nat) (x11 : List ByteArray) (x12 : List (List Int)) (_ : FloatKind.f32.has x0) (_ : FloatKind.f32.has x1) (_ : FloatKind.f32.has x2) (_ : FloatKind.f32.has x3) (_ : FloatKind.f32.has x4) (_ : FloatKind.f32.has x5) (_ : FloatKind.f32.has x6) (_ : FloatKind.f32.has x7) (_ : x8.size ≤ 9223372036854775807) (_ : FloatKind.f32.has x9) (_ : FloatKind.f32.has x10) (s11 : ∀ s ∈ x11, s.size ≤ 9223372036854775807) (l11 : x11.length ≤ 9223372036854775807) (k12 : RowsOk S3 x12) (l12 : x12.length ≤ 9223372036854775807) : r7 x0 x1 x2 x3 x4 x5 x6 x7 x8 x9 x10 x11 x12 = (0, true) := by
  unfold r7
  cases decide (((((x8.size) : Nat) : Int) : Int) > 1048576) with
  | true => rfl
  | false =>
  obtain ⟨v, e, hv⟩ := szP s11 l11 l12 (show (0 : Int) ≤ 1048576 by decide) (Int.le_refl _)
  rw [e]
  rcases hv with rfl | ⟨g1, g2, g3, g4⟩
  · rfl
  rw [decide_eq_false (show ¬ v < 0 by omega), copyP k12 g3 g4]
  obtain ⟨b, c1, c2⟩ := valid_both s11 k12 g3 g4
  have key : ∃ y c, r27 x0 x1 x2 x3 x4 x5 x6 x7 x8 x9 x10 x11 x12 = (0, y, c) ∧ r30 x0 x1 x2 x3 x4 x5 x6 x7 x8 x9 x10 x11 x12 = (0, y, c) := by
    have e63 : r63 x9 x10 = r71 x9 x10 := rfl
    have e65 : ∀ a b c d, r65 a b c d = r61 a b c d := fun _ _ _ _ => rfl
    unfold r27 r30 r60
    rw [c1, c2, e63]
    cases b with
    | false => exact ⟨_, _, rfl, rfl⟩
    | true =>
      cases r71 x9 x10 with
      | false => exact ⟨_, _, rfl, rfl⟩
      | true =>
        obtain ⟨q, q1, q2⟩ := given_eq c1 x0 x1 x2 x3 x4 x5 x6 x7
        rw [q1, q2]
        cases q with
        | false => exact ⟨_, _, rfl, rfl⟩
        | true =>
          rcases find_both g3 x8 with ⟨f1, f2⟩ | ⟨j, f0, f1, f2⟩
          · rw [f1, f2]; exact ⟨_, _, rfl, rfl⟩
          · obtain ⟨w, w0, w1, w2⟩ := run_both k12 g4 g3 c1 x0 x1 x2 x3 x4 x5 x6 x7
            have w3 : r66 x0 x1 x2 x3 x4 x5 x6 x7 x11 x12 = (0, w) := by unfold r66; rw [w2]; rfl
            rw [f1, f2, w1, w3]
            simp only [Int.toNat_natCast, e65]
            rw [dle0, blt_t (show j < w.length by omega), decide_eq_false (show ¬ ((j : Nat) : Int) < 0 by omega)]
            exact ⟨_, _, rfl, rfl⟩
  obtain ⟨y, c, d1, d2⟩ := key
  simp only [d1, d2, prog_self g3 g4, bne_self_eq_false, beq_self_eq_true]
  rfl
end Go.Proofs.Ytfclciebpnnieaa
