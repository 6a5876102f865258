/- The plain law of SwapRooms: the answer. -/
import Derived.Test.YtfnfapmncibjfaaPsw3
namespace Go.Proofs.Ytfnfapmncibjfaa
open Go.Ab

section
variable {x2 x3 x4 x5 : List (List Int)} (l2 : x2.length ≤ 1048576) (l3 : x3.length ≤ 1048576) (l4 : x4.length ≤ 1048576) (l5 : x5.length ≤ 1048576)
include l2 l3 l4 l5
theorem ownS : r59 x2 x3 x4 x5 = (0, x2, x3, x4, x5) := by
  unfold r59
  have b1 : Nat.ble ((0 + x2.length) * 5) 140737488355328 = true := Nat.ble_eq_true_of_le (by omega)
  have b2 : Nat.ble ((0 + x3.length) * 5) 140737488355328 = true := Nat.ble_eq_true_of_le (by omega)
  have b3 : Nat.ble ((0 + x4.length) * 41) 140737488355328 = true := Nat.ble_eq_true_of_le (by omega)
  have b4 : Nat.ble ((0 + x5.length) * 25) 140737488355328 = true := Nat.ble_eq_true_of_le (by omega)
  rw [b1, b2, b3, b4]; rfl
theorem ownI : r73 x2 x3 x4 x5 = (0, x2, x3, x4, x5) := ownS l2 l3 l4 l5
end
/-- two rows change places -/
def sw (a b : Nat) (t : List (List Int)) : List (List Int) := (t.set a [((fc t b 0 : Nat) : Int)]).set b [((fc t a 0 : Nat) : Int)]
theorem sw_len (a b : Nat) (t : List (List Int)) : (sw a b t).length = t.length := by unfold sw; simp
theorem swapS {a b : Nat} {x2 x3 x4 x5 : List (List Int)} (ok : FlatOk x2 x3 x4 x5) (hv : r61 x2 x3 x4 x5 = (0, true)) (ha : a < x2.length) (hb : b < x2.length) : r38 (a : Int) (b : Int) x2 x3 x4 x5 = (1, 0, sw a b x2, sw a b x3, foldN (uF 8 (a : Int) (b : Int)) x4.length 0 x4, foldN (uF 4 (a : Int) (b : Int)) x5.length 0 x5) := by
  have q1 := ok.n5
  have q2 := ok.s
  have q3 := ok.w
  have q4 := ok.p
  have e : ∀ c : Nat, c < x2.length → r87 (c : Int) 0 (IntKind.i64.wrap (((x2.length : Nat) : Int) - 1)) = true := fun c hc => by
    rw [wrap_i64 (by omega) (by omega)]
    unfold r87
    rw [decide_eq_true (show ((c : Nat) : Int) ≥ 0 by omega), decide_eq_true (show ((c : Nat) : Int) ≤ ((x2.length : Nat) : Int) - 1 by omega)]; rfl
  unfold r38
  simp only [ownS (x2 := x2) (x3 := x3) (x4 := x4) (x5 := x5) (by omega) (by omega) (by omega) (by omega), hv, e a ha, e b hb, Int.toNat_natCast, List.length_set, dle0, blt_t ha, blt_t hb, blt_t (show a < x3.length by omega), blt_t (show b < x3.length by omega)]
  rw [w8S (by omega) (by omega)]
  dsimp only
  rw [p4S (by omega) (by omega)]
  rfl
theorem swapI {a b : Nat} {x2 x3 x4 x5 : List (List Int)} (ok : FlatOk x2 x3 x4 x5) (hv : r65 x2 x3 x4 x5 = (0, true)) (ha : a < x2.length) (hb : b < x2.length) : r22 (a : Int) (b : Int) x2 x3 x4 x5 = (1, 0, sw a b x2, sw a b x3, foldN (uF 8 (a : Int) (b : Int)) x4.length 0 x4, foldN (uF 4 (a : Int) (b : Int)) x5.length 0 x5) := by
  have q1 := ok.n5
  have q2 := ok.s
  have q3 := ok.w
  have q4 := ok.p
  unfold r22
  simp only [ownI (x2 := x2) (x3 := x3) (x4 := x4) (x5 := x5) (by omega) (by omega) (by omega) (by omega), hv, Int.toNat_natCast, List.length_set, dle0, blt_t ha, blt_t hb, blt_t (show a < x3.length by omega), blt_t (show b < x3.length by omega), decide_eq_false (show ¬ ((a : Nat) : Int) < 0 by omega), decide_eq_false (show ¬ ((b : Nat) : Int) < 0 by omega), decide_eq_false (show ¬ ((a : Nat) : Int) ≥ ((x2.length : Nat) : Int) by omega), decide_eq_false (show ¬ ((b : Nat) : Int) ≥ ((x2.length : Nat) : Int) by omega)]
  rw [w8I (by omega) (by omega)]
  dsimp only
  rw [p4I (by omega) (by omega)]
  rfl
theorem in_n {c : Int} {n : Nat} (hn : n ≤ 1048576) (h : r87 c 0 (IntKind.i64.wrap (((n : Nat) : Int) - 1)) = true) : 0 ≤ c ∧ c < n := by
  rw [wrap_i64 (by omega) (by omega)] at h
  unfold r87 at h
  by_cases h1 : c ≥ 0
  · rw [decide_eq_true h1, cond_true, decide_eq_true_eq] at h
    omega
  · rw [decide_eq_false h1] at h; cases h
theorem in_f {c : Int} {n : Nat} (hn : n ≤ 1048576) (h : r87 c 0 (IntKind.i64.wrap (((n : Nat) : Int) - 1)) = false) : c < 0 ∨ c ≥ n := by
  rw [wrap_i64 (by omega) (by omega)] at h
  unfold r87 at h
  by_cases h1 : c ≥ 0
  · rw [decide_eq_true h1, cond_true, decide_eq_false_iff_not] at h
    omega
  · omega
theorem plain7 (x0 x1 : Int) (x2 x3 x4 x5 : List (List Int)) (_ : IntKind.i64.has x0) (_ : IntKind.i64.has x1) (k2 : RowsOk S1 x2) (l2 : x2.length ≤ 9223372036854775807) (k3 : RowsOk S1 x3) (l3 : x3.length ≤ 9223372036854775807) (k4 : RowsOk S8 x4) (l4 : x4.length ≤ 9223372036854775807) (k5 : RowsOk S4 x5) (l5 : x5.length ≤ 9223372036854775807) : r7 x0 x1 x2 x3 x4 x5 = (0, true) := by
  unfold r7
  rcases szF l2 l3 l4 l5 with g | ⟨g, g2, g3, g4, g5⟩
  · rw [decide_eq_true g]; rfl
  rw [decide_eq_false (show ¬ r23 1048576 x2 x3 x4 x5 < 0 by omega), copyF k2 k3 k4 k5 g2 g3 g4 g5]
  obtain ⟨b, v1, v2, v3⟩ := valid_both k3 k4 k5 g2 g3 g4 g5
  obtain ⟨a', b', c', d', m1, _⟩ := markF g2 g3 g4 g5
  have m0 : r37 1 = 1 := by unfold r37; rfl
  have hs := flat_self g2 g3 g4 g5
  have hp := mTop_pos x2 x3 x4 x5
  have key : (∃ c, r38 x0 x1 x2 x3 x4 x5 = (0, c, [], [], [], []) ∧ r22 x0 x1 x2 x3 x4 x5 = (0, c, [], [], [], [])) ∨ ∃ p0 p1 p2 p3, p0.length ≤ 1048576 ∧ p1.length ≤ 1048576 ∧ p2.length ≤ 1048576 ∧ p3.length ≤ 1048576 ∧ r38 x0 x1 x2 x3 x4 x5 = (1, 0, p0, p1, p2, p3) ∧ r22 x0 x1 x2 x3 x4 x5 = (1, 0, p0, p1, p2, p3) := by
    cases b with
    | false =>
      refine .inl ⟨1, ?_, ?_⟩
      · unfold r38; rw [v1]; rfl
      · unfold r22; rw [v2]; rfl
    | true =>
      have ok := v3 rfl
      cases e0 : r87 x0 0 (IntKind.i64.wrap (((x2.length : Nat) : Int) - 1)) with
      | false =>
        refine .inl ⟨2, ?_, ?_⟩
        · unfold r38; rw [v1, e0]; rfl
        · unfold r22; rw [v2]
          by_cases h : x0 < 0
          · rw [decide_eq_true h]; rfl
          · rw [decide_eq_false h, decide_eq_true (show x0 ≥ ((x2.length : Nat) : Int) from (in_f g2 e0).resolve_left h)]; rfl
      | true =>
        obtain ⟨i1, i2⟩ := in_n g2 e0
        cases e1 : r87 x1 0 (IntKind.i64.wrap (((x2.length : Nat) : Int) - 1)) with
        | false =>
          refine .inl ⟨2, ?_, ?_⟩
          · unfold r38; rw [v1, e0, e1]; rfl
          · unfold r22; rw [v2, decide_eq_false (show ¬ x0 < 0 by omega), decide_eq_false (show ¬ x0 ≥ ((x2.length : Nat) : Int) by omega)]
            by_cases h : x1 < 0
            · rw [decide_eq_true h]; rfl
            · rw [decide_eq_false h, decide_eq_true (show x1 ≥ ((x2.length : Nat) : Int) from (in_f g2 e1).resolve_left h)]; rfl
        | true =>
          obtain ⟨j1, j2⟩ := in_n g2 e1
          obtain ⟨a, rfl⟩ : ∃ a : Nat, x0 = (a : Int) := ⟨x0.toNat, by omega⟩
          obtain ⟨c, rfl⟩ : ∃ c : Nat, x1 = (c : Int) := ⟨x1.toNat, by omega⟩
          refine .inr ⟨sw a c x2, sw a c x3, _, _, ?_, ?_, ?_, ?_, swapS ok v1 (by omega) (by omega), swapI ok v2 (by omega) (by omega)⟩
          · rw [sw_len]; exact g2
          · rw [sw_len]; exact g3
          · rw [foldN_len (uF_len 8 _ _)]; exact g4
          · rw [foldN_len (uF_len 4 _ _)]; exact g5
  rcases key with ⟨c, d1, d2⟩ | ⟨p0, p1, p2, p3, e0, e1, e2, e3, d1, d2⟩
  · simp only [d1, d2, hs, m1, m0, bne_self_eq_false]
    rw [decide_eq_false (show ¬ mTop x2 x3 x4 x5 < 0 by omega)]
    rfl
  · obtain ⟨a2, b2, c2, d2', n1, n2⟩ := markF e0 e1 e2 e3
    have hs2 := flat_self e0 e1 e2 e3
    have hq := mTop_pos p0 p1 p2 p3
    simp only [d1, d2, hs, hs2, m1, n1, n2, bne_self_eq_false]
    rw [decide_eq_false (show ¬ mTop x2 x3 x4 x5 < 0 by omega), decide_eq_false (show ¬ mTop p0 p1 p2 p3 < 0 by omega)]
    rfl
end Go.Proofs.Ytfnfapmncibjfaa
