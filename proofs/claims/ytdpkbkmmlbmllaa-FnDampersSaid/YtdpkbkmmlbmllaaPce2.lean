/- Chimneys that are drawn. -/
import Derived.Test.YtdpkbkmmlbmllaaPce1
namespace Go.Proofs.Ytdpkbkmmlbmllaa
open Go.Ab Ieee

/-- flue 'q' of a chimney was drawn, and leads to the trunk or nowhere -/
def DrR (t : List (List Int)) (tr : Int) (q : Nat) : Prop := ∃ i j k l : Nat, ∃ e : Int, i < 32 ∧ j < 16 ∧ k < 300 ∧ l < 9 ∧ t.getD q [] = [(hD i : Int), (wD j : Int), (tD k : Int), (dD l : Int), e] ∧ (e = -1 ∨ (e = tr ∧ (q : Int) ≠ tr))
/-- a chimney that was drawn -/
structure DrOk (t : List (List Int)) : Prop where
  n1 : 1 ≤ t.length
  n2 : t.length ≤ 5
  ex : ∃ tr : Nat, tr < t.length ∧ ∀ q, q < t.length → DrR t (tr : Int) q
theorem draw_rows {c : List (List Int)} (h : RowsOk SU c) (hl : c.length ≤ 4096) : ∀ (k a : Nat) (s : Int) (x : List (List Int)) (fuel : Nat), k < fuel → a + 8 * k ≤ 100000 → x.length + k ≤ 6 → (∀ q, q < x.length → DrR x (-1) q) →
    (k = 0 ∧ r51l0 fuel (k : Int) (a : Int) s x c = (1, 0, 0, [])) ∨ ∃ b s' y, r51l0 fuel (k : Int) (a : Int) s x c = (0, ((b : Nat) : Int), s', y) ∧ a ≤ b ∧ b ≤ a + 8 * k ∧ y.length = x.length + k ∧ ∀ q, q < y.length → DrR y (-1) q := by
  intro k
  induction k with
  | zero =>
    intro a s x fuel hf ha hx hd
    obtain ⟨m, rfl⟩ : ∃ m, fuel = m + 1 := ⟨fuel - 1, by omega⟩
    refine .inl ⟨rfl, ?_⟩
    show b51l0 (r51l0 m) _ _ _ _ _ = _
    unfold b51l0
    rfl
  | succ k ih =>
    intro a s x fuel hf ha hx hd
    obtain ⟨m, rfl⟩ : ∃ m, fuel = m + 1 := ⟨fuel - 1, by omega⟩
    obtain ⟨i, j, p, l, b, s1, e1, hi, hj, hp, hlt, l1, u1⟩ := draw_flue h (by omega) (a := a) (by omega) s
    have hd' : ∀ q, q < (x ++ [[(hD i : Int), (wD j : Int), (tD p : Int), (dD l : Int), -1]]).length → DrR (x ++ [[(hD i : Int), (wD j : Int), (tD p : Int), (dD l : Int), -1]]) (-1) q := by
      intro q hq
      rw [List.length_append] at hq
      by_cases g : q < x.length
      · obtain ⟨i', j', k', l', e', g1, g2, g3, g4, g5, g6⟩ := hd q g
        refine ⟨i', j', k', l', e', g1, g2, g3, g4, ?_, g6⟩
        rw [← g5]; simp [List.getD, List.getElem?_append_left g]
      · have hq' : q = x.length := by simp at hq; omega
        subst hq'
        exact ⟨i, j, p, l, -1, hi, hj, hp, hlt, by simp [List.getD], .inl rfl⟩
    have hih := ih b s1 (x ++ [[(hD i : Int), (wD j : Int), (tD p : Int), (dD l : Int), -1]]) m (by omega) (by omega) (by simp; omega) hd'
    refine .inr ?_
    show ∃ b s' y, b51l0 (r51l0 m) _ _ _ _ _ = _ ∧ _
    unfold b51l0
    simp only [e1, take_all]
    rw [decide_eq_true (show ((k + 1 : Nat) : Int) > 0 by omega), show Nat.ble ((x.length + 1) * 25) 140737488355328 = true from Nat.ble_eq_true_of_le (by omega), show IntKind.i64.wrap (((k + 1 : Nat) : Int) - 1) = (k : Int) from by rw [wrap_i64 (by omega) (by omega)]; omega]
    rcases hih with ⟨k0, e⟩ | ⟨b', s', y, e, l2, u2, hy, hdy⟩
    · rw [e]
      subst k0
      exact ⟨b, s1, _, rfl, l1, by omega, by simp, hd'⟩
    · rw [e]
      exact ⟨b', s', y, rfl, by omega, by omega, by rw [hy]; simp; omega, hdy⟩
theorem into_set {t : List (List Int)} {q : Nat} (hq : q < t.length) (v : Int) (j : Nat) : (t.modify q (fun r => spl 5 r 4 [v])).getD j [] = if j = q then spl 5 (t.getD q []) 4 [v] else t.getD j [] := by
  by_cases h : j = q
  · subst h; simp [List.getD, List.getElem?_modify, hq]
  · simp [List.getD, List.getElem?_modify, h, Ne.symm h]
theorem draw_into {c : List (List Int)} (h : RowsOk SU c) (hl : c.length ≤ 4096) (n tr : Nat) (hn : n ≤ 5) : ∀ (k i a : Nat) (s : Int) (x : List (List Int)) (fuel : Nat), i + k = n → k < fuel → a + 2 * k ≤ 100000 → x.length = n → (∀ q, q < n → DrR x (tr : Int) q) →
    ∃ b s' y, r51l1 fuel (n : Int) (tr : Int) (i : Int) (a : Int) s x c = (0, ((b : Nat) : Int), s', y) ∧ y.length = n ∧ ∀ q, q < n → DrR y (tr : Int) q := by
  intro k
  induction k with
  | zero =>
    intro i a s x fuel hik hf ha hx hd
    obtain ⟨m, rfl⟩ : ∃ m, fuel = m + 1 := ⟨fuel - 1, by omega⟩
    refine ⟨a, s, x, ?_, hx, hd⟩
    show b51l1 (r51l1 m) _ _ _ _ _ _ _ = _
    unfold b51l1
    rw [dlt_f (by omega)]; rfl
  | succ k ih =>
    intro i a s x fuel hik hf ha hx hd
    obtain ⟨m, rfl⟩ : ∃ m, fuel = m + 1 := ⟨fuel - 1, by omega⟩
    show ∃ b s' y, b51l1 (r51l1 m) _ _ _ _ _ _ _ = _ ∧ _
    unfold b51l1
    rw [dlt_t (show i < n by omega), wrap_succ (by omega)]
    by_cases hit : i = tr
    · subst hit
      rw [bne_self_eq_false]
      exact ih (i + 1) a s x m (by omega) (by omega) (by omega) hx hd
    · rw [show (((i : Nat) : Int) != (tr : Int)) = true from bne_iff_ne.2 (by omega)]
      obtain ⟨p, b, s1, e1, _, l1, u1⟩ := pick_ok h (by omega) (n := 3) (a := a) (by omega) (by decide) s
      have e1' : r53 3 (a : Int) s c = _ := e1
      have e89 : r89 (a : Int) s c = (0, ((p : Int) == 0), (b : Int), s1) := by unfold r89; rw [e1']; rfl
      simp only [e89, Int.toNat_natCast]
      rw [dle0, blt_t (show i < x.length by omega)]
      simp only [cond_true, cond_false, Nat.beq, Bool.and_self]
      cases ((p : Int) == 0) with
      | true => exact ih (i + 1) b s1 x m (by omega) (by omega) (by omega) hx hd
      | false =>
        refine ih (i + 1) b s1 (x.modify i (fun r => spl 5 r 4 [(tr : Int)])) m (by omega) (by omega) (by omega) (by rw [List.length_modify]; exact hx) (fun q hq => ?_)
        obtain ⟨i', j', k', l', e', g1, g2, g3, g4, g5, g6⟩ := hd q hq
        by_cases hqi : q = i
        · subst hqi
          refine ⟨i', j', k', l', tr, g1, g2, g3, g4, ?_, .inr ⟨rfl, by omega⟩⟩
          rw [into_set (by omega), if_pos rfl, g5]; rfl
        · refine ⟨i', j', k', l', e', g1, g2, g3, g4, ?_, g6⟩
          rw [into_set (by omega), if_neg hqi]; exact g5
theorem draw_ok {c : List (List Int)} (h : RowsOk SU c) (hl : c.length ≤ 4096) : ∃ t, r13 c = (0, t) ∧ DrOk t := by
  obtain ⟨p, a, s, e1, hp, l1, u1⟩ := pick_ok h (by omega) (n := 5) (a := 0) (by omega) (by decide) 0
  have e1' : r53 5 0 0 c = _ := e1
  have hw : IntKind.i64.wrap (1 + (p : Int)) = ((1 + p : Nat) : Int) := by rw [wrap_i64 (by omega) (by omega)]; omega
  rcases draw_rows h hl (1 + p) a s [] (1000 + c.length + 0) (by omega) (by omega) (by simp; omega) (fun q hq => absurd hq (Nat.not_lt_zero _)) with ⟨k0, _⟩ | ⟨b, s2, y, e2, l2, u2, hy, hd⟩
  · omega
  · rw [List.length_nil] at hy
    obtain ⟨tr, b2, s3, e3, htr, l3, u3⟩ := pick_ok h (by omega) (n := y.length) (a := b) (by omega) (by omega) s2
    obtain ⟨b4, s4, z, e4, hz, hdz⟩ := draw_into h hl y.length tr (by omega) y.length 0 b2 s3 y (1000 + c.length + y.length) (by omega) (by omega) (by omega) rfl (fun q hq => by
      obtain ⟨i', j', k', l', e', g1, g2, g3, g4, g5, g6⟩ := hd q hq
      exact ⟨i', j', k', l', e', g1, g2, g3, g4, g5, by rcases g6 with g | ⟨g, _⟩ <;> exact .inl g⟩)
    have e4' : r51l1 (1000 + c.length + y.length) ((y.length : Nat) : Int) (tr : Int) 0 (b2 : Int) s3 y c = _ := e4
    refine ⟨z, ?_, ⟨by omega, by omega, tr, by omega, by rw [hz]; exact hdz⟩⟩
    unfold r13 r51 r52
    simp only [e1', hw, e2, e3, e4']
    rfl
theorem DrOk.ch {t : List (List Int)} (h : DrOk t) : ChOk t := by
  obtain ⟨tr, htr, hd⟩ := h.ex
  have n1 := h.n1
  have n2 := h.n2
  have trn : ic t tr 4 = -1 := by
    obtain ⟨i, j, k, l, e, _, _, _, _, g5, g6⟩ := hd tr htr
    show (t.getD tr []).getD 4 0 = -1
    rw [g5]
    rcases g6 with g | ⟨_, g⟩
    · exact g
    · exact absurd rfl g
  refine ⟨?_, n1, by omega, fun q hq => ?_, fun q hq => ?_⟩
  · intro r hr
    obtain ⟨q, hq, e⟩ := rows_getD hr
    obtain ⟨i, j, k, l, e', g1, g2, g3, g4, g5, g6⟩ := hd q hq
    have f := flue_drawn g1 g2 g3 g4
    have f1 := f.h
    have f2 := f.w
    have f3 := f.t0
    have f4 := f.d
    rw [← e, g5]
    refine ⟨ct_nat (by omega), ct_nat (by omega), ct_nat f3, ct_nat (by omega), ?_, trivial⟩
    show IntKind.i64.min ≤ e' ∧ e' ≤ IntKind.i64.max
    have m1 : IntKind.i64.min = -9223372036854775808 := by decide
    have m2 : IntKind.i64.max = 9223372036854775807 := by decide
    rw [m1, m2]
    rcases g6 with g | ⟨g, _⟩ <;> omega
  · obtain ⟨i, j, k, l, e', g1, g2, g3, g4, g5, g6⟩ := hd q hq
    have f := flue_drawn g1 g2 g3 g4
    show FlueOk (Int.toNat ((t.getD q []).getD 0 0)) (Int.toNat ((t.getD q []).getD 1 0)) (Int.toNat ((t.getD q []).getD 2 0)) (Int.toNat ((t.getD q []).getD 3 0))
    rw [g5]
    exact f
  · obtain ⟨i, j, k, l, e', g1, g2, g3, g4, g5, g6⟩ := hd q hq
    have e : ic t q 4 = e' := by show (t.getD q []).getD 4 0 = e'; rw [g5]; rfl
    rw [e]
    rcases g6 with g | ⟨g, g'⟩
    · exact .inl g
    · refine .inr ⟨by omega, by omega, by omega, ?_⟩
      rw [g, Int.toNat_natCast]; exact trn
theorem pick14 {c : List (List Int)} (h : RowsOk SU c) (hl : c.length ≤ 4096) {n : Nat} (hn : n ≤ 1000) : ∃ p : Nat, r14 (n : Int) c = (0, (p : Int)) ∧ (p < n ∨ p = 0) := by
  obtain ⟨p, a, s, e1, hp, _⟩ := pick_ok h (by omega) (n := n) (a := 0) (by omega) hn 0
  have e1' : r53 (n : Int) 0 0 c = _ := e1
  refine ⟨p, ?_, hp⟩
  unfold r14 r52
  simp only [e1']
  rfl
end Go.Proofs.Ytdpkbkmmlbmllaa
