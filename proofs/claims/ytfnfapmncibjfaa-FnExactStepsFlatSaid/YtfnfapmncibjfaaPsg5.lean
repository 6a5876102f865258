/- The plain law of StepsFlat. -/
import Derived.Test.YtfnfapmncibjfaaPsg4
namespace Go.Proofs.Ytfnfapmncibjfaa
open Go.Ab

abbrev Tup11 := Nat × Nat × List (List Int) × List (List Int) × List (List Int) × List (List Int) × Nat × List (List Int) × List (List Int) × List (List Int) × List (List Int)
/-- what the loop of steps may answer -/
def Good (q : Tup11) : Prop := q.1 = 0 ∨ q.1 = 1 ∨ (q.1 = 2 ∧ q.2.2.2.2.2.2.2.1.length ≤ 1048576 ∧ q.2.2.2.2.2.2.2.2.1.length ≤ 1048576 ∧ q.2.2.2.2.2.2.2.2.2.1.length ≤ 1048576 ∧ q.2.2.2.2.2.2.2.2.2.2.length ≤ 1048576) ∨ q.1 = 3
theorem steps {g : List (List Int)} (a b t : Nat) {n : Nat} (hn : n ≤ 400) : ∀ (k i fs fi x : Nat) (h s w p : List (List Int)), i + k = n → k < fs → k < fi → FlatOk h s w p → g.length = h.length → RowsOk S1 s → RowsOk S8 w → RowsOk S4 p →
    r50l0 fs a b t (n : Int) x (i : Int) g h s w p = r51l0 fi a b t x (n : Int) (i : Int) g h s w p ∧ Good (r51l0 fi a b t x (n : Int) (i : Int) g h s w p) := by
  intro k
  induction k with
  | zero =>
    intro i fs fi x h s w p hik hf1 hf2 ok hg k1 k2 k3
    obtain ⟨m, rfl⟩ : ∃ m, fs = m + 1 := ⟨fs - 1, by omega⟩
    obtain ⟨m', rfl⟩ : ∃ m, fi = m + 1 := ⟨fi - 1, by omega⟩
    have e1 : r50l0 (m + 1) a b t (n : Int) x (i : Int) g h s w p = (3, 0, [], [], [], [], 0, [], [], [], []) := by
      show b50l0 (r50l0 m) _ _ _ _ _ _ _ _ _ _ _ = _
      unfold b50l0
      rw [dlt_f (by omega)]; rfl
    have e2 : r51l0 (m' + 1) a b t x (n : Int) (i : Int) g h s w p = (3, 0, [], [], [], [], 0, [], [], [], []) := by
      show b51l0 (r51l0 m') _ _ _ _ _ _ _ _ _ _ _ = _
      unfold b51l0
      rw [dlt_f (by omega)]; rfl
    rw [e1, e2]
    exact ⟨rfl, .inr (.inr (.inr rfl))⟩
  | succ k ih =>
    intro i fs fi x h s w p hik hf1 hf2 ok hg k1 k2 k3
    obtain ⟨m, rfl⟩ : ∃ m, fs = m + 1 := ⟨fs - 1, by omega⟩
    obtain ⟨m', rfl⟩ : ∃ m, fi = m + 1 := ⟨fi - 1, by omega⟩
    obtain ⟨v, v0, v1, v2⟩ := step_both ok hg k1 k2 k3 a b t
    have hH := nHeat_len a b t g h s w p
    have hW := nWall_len a t h w
    have q1 := ok.n5
    have q2 := ok.s
    have q3 := ok.w
    have q4 := ok.p
    have hi : i < n := by omega
    have bad : ∀ z : Bool, (cond v z false) = false → (v = false ∨ z = false) := fun z hz => by cases v <;> cases z <;> first | exact .inl rfl | exact .inr rfl | cases hz
    cases hv : v with
    | false =>
      rw [hv] at v1 v2
      have e1 : r50l0 (m + 1) a b t (n : Int) x (i : Int) g h s w p = (0, 0, [], [], [], [], 0, [], [], [], []) := by
        show b50l0 (r50l0 m) _ _ _ _ _ _ _ _ _ _ _ = _
        unfold b50l0
        rw [dlt_t hi, v1]; rfl
      have e2 : r51l0 (m' + 1) a b t x (n : Int) (i : Int) g h s w p = (0, 0, [], [], [], [], 0, [], [], [], []) := by
        show b51l0 (r51l0 m') _ _ _ _ _ _ _ _ _ _ _ = _
        unfold b51l0
        rw [dlt_t hi, v2]
        cases r102 (nLoss a t h w p) <;> rfl
      rw [e1, e2]
      exact ⟨rfl, .inl rfl⟩
    | true =>
      rw [hv] at v1 v2
      cases hl : r102 (nLoss a t h w p) with
      | false =>
        rw [hl] at v1 v2
        have e1 : r50l0 (m + 1) a b t (n : Int) x (i : Int) g h s w p = (0, 0, [], [], [], [], 0, [], [], [], []) := by
          show b50l0 (r50l0 m) _ _ _ _ _ _ _ _ _ _ _ = _
          unfold b50l0
          rw [dlt_t hi, v1]; rfl
        have e2 : r51l0 (m' + 1) a b t x (n : Int) (i : Int) g h s w p = (0, 0, [], [], [], [], 0, [], [], [], []) := by
          show b51l0 (r51l0 m') _ _ _ _ _ _ _ _ _ _ _ = _
          unfold b51l0
          rw [dlt_t hi, v2]; rfl
        rw [e1, e2]
        exact ⟨rfl, .inl rfl⟩
      | true =>
        rw [hl] at v1 v2
        have kW : RowsOk S8 (nWall a t h w) := vF_rows w.length 0 w k2 (by omega)
        obtain ⟨r1, r2⟩ := ih (i + 1) m m' (fadd .f32 x (nLoss a t h w p)) (nHeat a b t g h s w p) s (nWall a t h w) p (by omega) (by omega) (by omega) (v0 hv) (by omega) k1 kW k3
        have e1 : r50l0 (m + 1) a b t (n : Int) x (i : Int) g h s w p = cond (Nat.beq (r51l0 m' a b t (fadd .f32 x (nLoss a t h w p)) (n : Int) ((i + 1 : Nat) : Int) g (nHeat a b t g h s w p) s (nWall a t h w) p).1 0) (1, (fadd .f32 x (nLoss a t h w p)), nHeat a b t g h s w p, s, nWall a t h w, p, 0, [], [], [], [])
           (cond (Nat.beq (r51l0 m' a b t (fadd .f32 x (nLoss a t h w p)) (n : Int) ((i + 1 : Nat) : Int) g (nHeat a b t g h s w p) s (nWall a t h w) p).1 1) (1, (r51l0 m' a b t (fadd .f32 x (nLoss a t h w p)) (n : Int) ((i + 1 : Nat) : Int) g (nHeat a b t g h s w p) s (nWall a t h w) p).2.1, (r51l0 m' a b t (fadd .f32 x (nLoss a t h w p)) (n : Int) ((i + 1 : Nat) : Int) g (nHeat a b t g h s w p) s (nWall a t h w) p).2.2.1, (r51l0 m' a b t (fadd .f32 x (nLoss a t h w p)) (n : Int) ((i + 1 : Nat) : Int) g (nHeat a b t g h s w p) s (nWall a t h w) p).2.2.2.1, (r51l0 m' a b t (fadd .f32 x (nLoss a t h w p)) (n : Int) ((i + 1 : Nat) : Int) g (nHeat a b t g h s w p) s (nWall a t h w) p).2.2.2.2.1, (r51l0 m' a b t (fadd .f32 x (nLoss a t h w p)) (n : Int) ((i + 1 : Nat) : Int) g (nHeat a b t g h s w p) s (nWall a t h w) p).2.2.2.2.2.1, 0, [], [], [], [])
            (cond (Nat.beq (r51l0 m' a b t (fadd .f32 x (nLoss a t h w p)) (n : Int) ((i + 1 : Nat) : Int) g (nHeat a b t g h s w p) s (nWall a t h w) p).1 2) (2, 0, [], [], [], [], (r51l0 m' a b t (fadd .f32 x (nLoss a t h w p)) (n : Int) ((i + 1 : Nat) : Int) g (nHeat a b t g h s w p) s (nWall a t h w) p).2.2.2.2.2.2.1, (r51l0 m' a b t (fadd .f32 x (nLoss a t h w p)) (n : Int) ((i + 1 : Nat) : Int) g (nHeat a b t g h s w p) s (nWall a t h w) p).2.2.2.2.2.2.2.1, (r51l0 m' a b t (fadd .f32 x (nLoss a t h w p)) (n : Int) ((i + 1 : Nat) : Int) g (nHeat a b t g h s w p) s (nWall a t h w) p).2.2.2.2.2.2.2.2.1, (r51l0 m' a b t (fadd .f32 x (nLoss a t h w p)) (n : Int) ((i + 1 : Nat) : Int) g (nHeat a b t g h s w p) s (nWall a t h w) p).2.2.2.2.2.2.2.2.2.1, (r51l0 m' a b t (fadd .f32 x (nLoss a t h w p)) (n : Int) ((i + 1 : Nat) : Int) g (nHeat a b t g h s w p) s (nWall a t h w) p).2.2.2.2.2.2.2.2.2.2)
             (cond (Nat.beq (r51l0 m' a b t (fadd .f32 x (nLoss a t h w p)) (n : Int) ((i + 1 : Nat) : Int) g (nHeat a b t g h s w p) s (nWall a t h w) p).1 3) (2, 0, [], [], [], [], (fadd .f32 x (nLoss a t h w p)), nHeat a b t g h s w p, s, nWall a t h w, p) (4, 0, [], [], [], [], 0, [], [], [], [])))) := by
          rw [← r1]
          show b50l0 (r50l0 m) _ _ _ _ _ _ _ _ _ _ _ = _
          unfold b50l0
          rw [dlt_t hi, v1, wrap_succ (by omega)]
          rfl
        have e2 : r51l0 (m' + 1) a b t x (n : Int) (i : Int) g h s w p = r50l0 (m + 1) a b t (n : Int) x (i : Int) g h s w p := by
          rw [e1]
          show b51l0 (r51l0 m') _ _ _ _ _ _ _ _ _ _ _ = _
          unfold b51l0
          rw [dlt_t hi, v2, wrap_succ (by omega)]
          rfl
        refine ⟨e2.symm, ?_⟩
        rw [e2, e1]
        generalize r51l0 m' a b t (fadd .f32 x (nLoss a t h w p)) (n : Int) ((i + 1 : Nat) : Int) g (nHeat a b t g h s w p) s (nWall a t h w) p = q at r2
        rcases r2 with r2 | r2 | ⟨r2, c1, c2, c3, c4⟩ | r2
        · rw [r2]; exact .inr (.inl rfl)
        · rw [r2]; exact .inr (.inl rfl)
        · rw [r2]; exact .inr (.inr (.inl ⟨rfl, c1, c2, c3, c4⟩))
        · rw [r2]
          refine .inr (.inr (.inl ⟨rfl, ?_, ?_, ?_, ?_⟩))
          · show (nHeat a b t g h s w p).length ≤ 1048576; omega
          · show s.length ≤ 1048576; omega
          · show (nWall a t h w).length ≤ 1048576; omega
          · show p.length ≤ 1048576; omega
theorem plain10 (x0 x1 x2 : Nat) (x3 : Int) (x4 x5 x6 x7 x8 : List (List Int)) (h0 : FloatKind.f32.has x0) (h1 : FloatKind.f32.has x1) (h2 : FloatKind.f32.has x2) (_ : IntKind.i64.has x3) (k4 : RowsOk S1 x4) (l4 : x4.length ≤ 9223372036854775807) (k5 : RowsOk S1 x5) (l5 : x5.length ≤ 9223372036854775807) (k6 : RowsOk S8 x6) (l6 : x6.length ≤ 9223372036854775807) (k7 : RowsOk S4 x7) (l7 : x7.length ≤ 9223372036854775807) (k8 : RowsOk S1 x8) (l8 : x8.length ≤ 9223372036854775807) : r10 x0 x1 x2 x3 x4 x5 x6 x7 x8 = (0, true) := by
  unfold r10
  by_cases hx : (((x8.length : Nat) : Int) : Int) > 1048576
  · rw [decide_eq_true hx]; rfl
  rw [decide_eq_false hx]
  have hl8 : x8.length ≤ 1048576 := by omega
  rcases szF l4 l5 l6 l7 with g | ⟨g, g2, g3, g4, g5⟩
  · rw [decide_eq_true g]; rfl
  rw [decide_eq_false (show ¬ r23 1048576 x4 x5 x6 x7 < 0 by omega), copyF k4 k5 k6 k7 g2 g3 g4 g5, copy30 k8 hl8]
  obtain ⟨a', b', c', d', m1, _⟩ := markF g2 g3 g4 g5
  have hs := flat_self g2 g3 g4 g5
  have hp := mTop_pos x4 x5 x6 x7
  have hq : mTop x4 x5 x6 x7 ≤ 20000000 := by unfold mTop; omega
  have m2 := mk33 (k := mTop x4 x5 x6 x7) hl8 hp (by omega)
  have m0 : r37 1 = 1 := by unfold r37; rfl
  have hself8 := self31 hl8
  obtain ⟨c, c1, c2, c3⟩ := code_both (a := x0) (b := x1) hl8 (has32 h1) k5 k6 k7 g2 g3 g4 g5
  have key : (∃ c, r50 x0 x1 x2 x3 x4 x5 x6 x7 x8 = (0, c, 0, [], [], [], []) ∧ r51 x0 x1 x2 x3 x4 x5 x6 x7 x8 = (0, c, 0, [], [], [], [])) ∨ ∃ y p0 p1 p2 p3, p0.length ≤ 1048576 ∧ p1.length ≤ 1048576 ∧ p2.length ≤ 1048576 ∧ p3.length ≤ 1048576 ∧ r50 x0 x1 x2 x3 x4 x5 x6 x7 x8 = (1, 0, y, p0, p1, p2, p3) ∧ r51 x0 x1 x2 x3 x4 x5 x6 x7 x8 = (1, 0, y, p0, p1, p2, p3) := by
    unfold r50 r51
    rw [c1, c2, time_eq x2 (has32 h2)]
    dsimp only
    by_cases hc : c = 0
    · obtain ⟨ok, hg⟩ := c3 hc
      rw [show (c != 0) = false from by rw [bne_eq_false_iff_eq]; exact hc]
      cases r100 x2 with
      | false => exact .inl ⟨2, rfl, rfl⟩
      | true =>
      by_cases n0 : x3 < 0
      · have e : r87 x3 0 400 = false := by unfold r87; rw [decide_eq_false (show ¬ (x3 ≥ 0) by omega)]; rfl
        rw [e, decide_eq_true n0]; exact .inl ⟨2, rfl, rfl⟩
      by_cases n1 : x3 > 400
      · have e : r87 x3 0 400 = false := by unfold r87; rw [decide_eq_true (show (x3 ≥ 0) by omega), decide_eq_false (show ¬ (x3 ≤ 400) by omega)]; rfl
        rw [e, decide_eq_false n0, decide_eq_true n1]; exact .inl ⟨2, rfl, rfl⟩
      have e : r87 x3 0 400 = true := by unfold r87; rw [decide_eq_true (show (x3 ≥ 0) by omega), decide_eq_true (show (x3 ≤ 400) by omega)]; rfl
      rw [e, decide_eq_false n0, decide_eq_false n1, ownS ok, ownI ok]
      obtain ⟨n, rfl⟩ : ∃ n : Nat, x3 = (n : Int) := ⟨x3.toNat, by omega⟩
      obtain ⟨r1, r2⟩ := steps (g := x8) x0 x1 x2 (n := n) (by omega) n 0 (1000 + x7.length + x6.length + x5.length + x4.length + x8.length) (1000 + x7.length + x6.length + x5.length + x4.length + x8.length) 0 x4 x5 x6 x7 (by omega) (by omega) (by omega) ok hg k5 k6 k7
      have r1' : r50l0 (1000 + x7.length + x6.length + x5.length + x4.length + x8.length) x0 x1 x2 (n : Int) 0 0 x8 x4 x5 x6 x7 = r51l0 (1000 + x7.length + x6.length + x5.length + x4.length + x8.length) x0 x1 x2 0 (n : Int) 0 x8 x4 x5 x6 x7 := r1
      have r2' : Good (r51l0 (1000 + x7.length + x6.length + x5.length + x4.length + x8.length) x0 x1 x2 0 (n : Int) 0 x8 x4 x5 x6 x7) := r2
      dsimp only
      rw [r1']
      generalize r51l0 (1000 + x7.length + x6.length + x5.length + x4.length + x8.length) x0 x1 x2 0 (n : Int) 0 x8 x4 x5 x6 x7 = q at r2'
      have ef : ∀ d, r70 d = r102 d := fun d => (fin_impl d).trans (fin_spec d).symm
      rw [ef, ef]
      rcases r2' with r2 | r2 | ⟨r2, d1, d2, d3, d4⟩ | r2
      · rw [r2]; exact .inl ⟨4, rfl, rfl⟩
      · rw [r2]; exact .inl ⟨4, rfl, rfl⟩
      · rw [r2]
        cases r102 q.2.2.2.2.2.2.1 with
        | false => exact .inl ⟨4, rfl, rfl⟩
        | true => exact .inr ⟨_, _, _, _, _, d1, d2, d3, d4, rfl, rfl⟩
      · rw [r2]
        cases r102 0 with
        | false => exact .inl ⟨4, rfl, rfl⟩
        | true => exact .inr ⟨0, x4, x5, x6, x7, g2, g3, g4, g5, rfl, rfl⟩
    · rw [show (c != 0) = true from by rw [bne_iff_ne]; exact hc]
      exact .inl ⟨c, rfl, rfl⟩
  rcases key with ⟨c, d1, d2⟩ | ⟨y, p0, p1, p2, p3, e0, e1, e2, e3, d1, d2⟩
  · have hz := float_self 0
    simp only [d1, d2, hs, m1, m2, m0, hself8, hz, bne_self_eq_false]
    rw [decide_eq_false (show ¬ mTop x4 x5 x6 x7 + 1 * (x8.length : Int) < 0 by omega)]
    rfl
  · obtain ⟨a2, b2, c2', d2', n1, n2⟩ := markF e0 e1 e2 e3
    have hs2 := flat_self e0 e1 e2 e3
    have hq2 := mTop_pos p0 p1 p2 p3
    have hy := float_self (widen y)
    simp only [d1, d2, hs, hs2, m1, m2, n1, n2, hself8, hy, bne_self_eq_false]
    rw [decide_eq_false (show ¬ mTop x4 x5 x6 x7 + 1 * (x8.length : Int) < 0 by omega), decide_eq_false (show ¬ mTop p0 p1 p2 p3 < 0 by omega)]
    rfl
end Go.Proofs.Ytfnfapmncibjfaa
