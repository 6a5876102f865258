/- What is drawn from bytes. -/
import Derived.Test.YtmknfenjnladeaaPjd1
namespace Go.Proofs.Ytmknfenjnladeaa
open Go.Ab Ieee

abbrev SU : List CT := [.int .u8]
theorem byte_ok {c : List (List Int)} (h : RowsOk SU c) {i : Nat} (hi : i < c.length) : 0 ≤ ic c i 0 ∧ ic c i 0 ≤ 255 := by
  have := (h.get hi).get (j := 0) (t := .int .u8) rfl
  exact this
theorem and255 (x : Int) : 0 ≤ bits .and .u64 x 255 ∧ bits .and .u64 x 255 ≤ 255 := by
  have e : bits .and .u64 x 255 = IntKind.u64.wrap (((BitVec.ofInt 64 x &&& BitVec.ofInt 64 255).toNat : Nat) : Int) := rfl
  have h : (BitVec.ofInt 64 x &&& BitVec.ofInt 64 255).toNat ≤ 255 := by
    rw [BitVec.toNat_and]
    exact Nat.and_le_right
  generalize (BitVec.ofInt 64 x &&& BitVec.ofInt 64 255).toNat = n at *
  have w : IntKind.u64.wrap (n : Int) = (n : Int) := by
    have e2 : IntKind.u64.wrap (n : Int) = (n : Int) % 18446744073709551616 := by
      unfold IntKind.wrap
      rw [show IntKind.u64.bits = 64 from rfl, show IntKind.u64.signed = false from rfl]
      rfl
    rw [e2]; omega
  rw [e, w]
  omega
/-- the next number from 0 to 255 -/
theorem next_ok {c : List (List Int)} (h : RowsOk SU c) (hl : c.length ≤ 1048576) {a : Nat} (ha : a ≤ 1048576) (s : Int) : ∃ v s', r123 (a : Int) s c = (0, v, ((a + 1 : Nat) : Int), s') ∧ 0 ≤ v ∧ v ≤ 255 := by
  unfold r123
  rw [wrap_succ (by omega), Int.toNat_natCast]
  by_cases h1 : a < c.length
  · have hb := byte_ok h h1
    have wb : IntKind.i64.wrap (ic c a 0) = ic c a 0 := wrap_i64 (by omega) (by omega)
    rw [dlt_t h1, dle0, blt_t h1, decide_eq_true (show ((a + 1 : Nat) : Int) ≤ (c.length : Int) by omega)]
    exact ⟨_, _, rfl, by show 0 ≤ IntKind.i64.wrap (ic c a 0); rw [wb]; exact hb.1, by show IntKind.i64.wrap (ic c a 0) ≤ 255; rw [wb]; exact hb.2⟩
  · rw [dlt_f h1, decide_eq_false (show ¬ ((a + 1 : Nat) : Int) ≤ (c.length : Int) by omega)]
    refine ⟨_, _, rfl, ?_, ?_⟩
    · have g := and255 (Int.fdiv (IntKind.u64.wrap ((IntKind.u64.wrap ((IntKind.u64.wrap (s * 6364136223846793005)) + 0)) + 1442695040888963407)) (2 ^ (min (40 : Int).toNat (IntKind.bits .u64))))
      rw [wrap_i64 (by omega) (by omega)]; exact g.1
    · have g := and255 (Int.fdiv (IntKind.u64.wrap ((IntKind.u64.wrap ((IntKind.u64.wrap (s * 6364136223846793005)) + 0)) + 1442695040888963407)) (2 ^ (min (40 : Int).toNat (IntKind.bits .u64))))
      rw [wrap_i64 (by omega) (by omega)]; exact g.2
/-- a number from 0 to n - 1 -/
theorem pick_ok {c : List (List Int)} (h : RowsOk SU c) (hl : c.length ≤ 1048576) {n a : Nat} (ha : a + 2 ≤ 1048576) (hn : n ≤ 1000) (s : Int) : ∃ (p b : Nat) (s' : Int), r56 (n : Int) (a : Int) s c = (0, (p : Int), (b : Int), s') ∧ (p < n ∨ p = 0) ∧ a ≤ b ∧ b ≤ a + 2 := by
  unfold r56
  by_cases h1 : n ≤ 1
  · rw [decide_eq_true (show (n : Int) ≤ 1 by omega)]
    exact ⟨0, a, s, rfl, .inr rfl, Nat.le_refl _, by omega⟩
  · rw [decide_eq_false (show ¬ (n : Int) ≤ 1 by omega)]
    obtain ⟨v, s1, e1, v0, v1⟩ := next_ok h hl (a := a) (by omega) s
    obtain ⟨w, s2, e2, w0, w1⟩ := next_ok h hl (a := a + 1) (by omega) s1
    simp only [e1, e2]
    rw [decide_eq_false (show ¬ (n : Int) = 0 by omega)]
    by_cases h2 : n > 200
    · rw [decide_eq_true (show (n : Int) > 200 by omega), wrap_i64 (show -9223372036854775808 ≤ v * 256 by omega) (by omega), wrap_i64 (by omega) (by omega), Int.tmod_eq_emod_of_nonneg (by omega)]
      have g0 := Int.emod_nonneg (v * 256 + w) (show (n : Int) ≠ 0 by omega)
      have g1 := Int.emod_lt_of_pos (v * 256 + w) (show 0 < (n : Int) by omega)
      refine ⟨((v * 256 + w) % n).toNat, a + 1 + 1, s2, ?_, by omega, by omega, by omega⟩
      rw [Int.toNat_of_nonneg g0]; rfl
    · rw [decide_eq_false (show ¬ (n : Int) > 200 by omega), Int.tmod_eq_emod_of_nonneg v0]
      have g0 := Int.emod_nonneg v (show (n : Int) ≠ 0 by omega)
      have g1 := Int.emod_lt_of_pos v (show 0 < (n : Int) by omega)
      refine ⟨(v % n).toNat, a + 1, s1, ?_, by omega, by omega, by omega⟩
      rw [Int.toNat_of_nonneg g0]; rfl
/-! ### flues that are drawn -/
noncomputable def hD (i : Nat) : Nat := fdiv .f32 (ofInt .f32 ((1 + i : Nat) : Int)) 1082130432
noncomputable def wD (i : Nat) : Nat := fdiv .f32 (ofInt .f32 ((1 + i : Nat) : Int)) 1098907648
noncomputable def tD (i : Nat) : Nat := ofInt .f32 ((i : Int) - 10)
noncomputable def dD (i : Nat) : Nat := fdiv .f32 (ofInt .f32 ((i : Nat) : Int)) 1090519040
theorem hD_all : ∀ i : Fin 32, fdiv .f32 (ofInt .f32 ((1 + i.val : Nat) : Int)) 1082130432 < 2139095040 ∧ sv 1031798784 ≤ sv (fdiv .f32 (ofInt .f32 ((1 + i.val : Nat) : Int)) 1082130432) ∧ sv (fdiv .f32 (ofInt .f32 ((1 + i.val : Nat) : Int)) 1082130432) ≤ sv 1090519040 := by decide +kernel
theorem wD_all : ∀ i : Fin 16, fdiv .f32 (ofInt .f32 ((1 + i.val : Nat) : Int)) 1098907648 < 2139095040 ∧ sv 1015021568 ≤ sv (fdiv .f32 (ofInt .f32 ((1 + i.val : Nat) : Int)) 1098907648) ∧ sv (fdiv .f32 (ofInt .f32 ((1 + i.val : Nat) : Int)) 1098907648) ≤ sv 1065353216 := by decide +kernel
theorem tD_all : ∀ i : Fin 300, ofInt .f32 ((i.val : Int) - 10) % 2147483648 < 2139095040 ∧ ofInt .f32 ((i.val : Int) - 10) < 4294967296 ∧ sv (ofInt .f32 ((i.val : Int) - 10)) = ((i.val : Int) - 10) * 2 ^ 149 := by decide +kernel
theorem dD_all : ∀ i : Fin 9, fdiv .f32 (ofInt .f32 ((i.val : Nat) : Int)) 1090519040 ≤ 1065353216 := by decide +kernel
/-- what is drawn is valid -/
theorem flue_drawn {i j k l : Nat} (hi : i < 32) (hj : j < 16) (hk : k < 300) (hl : l < 9) : FlueOk (hD i) (wD j) (tD k) (dD l) := by
  have a := hD_all ⟨i, hi⟩
  have b := wD_all ⟨j, hj⟩
  have c := tD_all ⟨k, hk⟩
  have d := dD_all ⟨l, hl⟩
  have e1 := c2
  have e2 := c30
  have e3 := c4
  have e4 := c1
  have e5 := c8
  have e6 := cm60
  have e7 := c1500
  refine ⟨a.1, b.1, d, a.2.1, ?_, b.2.1, ?_, ?_, c.2.1, ?_, ?_⟩
  · have := a.2.2
    show sv (fdiv .f32 (ofInt .f32 ((1 + i : Nat) : Int)) 1082130432) ≤ _
    simp only at this
    omega
  · have := b.2.2
    show sv (fdiv .f32 (ofInt .f32 ((1 + j : Nat) : Int)) 1098907648) ≤ _
    simp only at this
    omega
  · unfold Nn tD; exact Nat.le_of_lt c.1
  · have := c.2.2
    show _ ≤ sv (ofInt .f32 ((k : Int) - 10))
    simp only at this
    omega
  · have := c.2.2
    show sv (ofInt .f32 ((k : Int) - 10)) ≤ _
    simp only at this
    omega
theorem draw_flue {c : List (List Int)} (h : RowsOk SU c) (hl : c.length ≤ 1048576) {a : Nat} (ha : a + 20 ≤ 1048576) (s : Int) : ∃ i j k l b : Nat, ∃ s' : Int, r121 (a : Int) s c = (0, hD i, wD j, tD k, dD l, -1, (b : Int), s') ∧ i < 32 ∧ j < 16 ∧ k < 300 ∧ l < 9 ∧ a ≤ b ∧ b ≤ a + 8 := by
  obtain ⟨p1, a1, s1, e1, h1, l1, u1⟩ := pick_ok h hl (n := 32) (a := a) (by omega) (by decide) s
  obtain ⟨p2, a2, s2, e2, h2, l2, u2⟩ := pick_ok h hl (n := 16) (a := a1) (by omega) (by decide) s1
  obtain ⟨p3, a3, s3, e3, h3, l3, u3⟩ := pick_ok h hl (n := 300) (a := a2) (by omega) (by decide) s2
  obtain ⟨p4, a4, s4, e4, h4, l4, u4⟩ := pick_ok h hl (n := 9) (a := a3) (by omega) (by decide) s3
  have e1' : r56 32 (a : Int) s c = _ := e1
  have e2' : r56 16 (a1 : Int) s1 c = _ := e2
  have e3' : r56 300 (a2 : Int) s2 c = _ := e3
  have e4' : r56 9 (a3 : Int) s3 c = _ := e4
  refine ⟨p1, p2, p3, p4, a4, s4, ?_, by omega, by omega, by omega, by omega, by omega, by omega⟩
  unfold r121
  simp only [e1', e2', e3', e4']
  rw [wrap_i64 (show -9223372036854775808 ≤ 1 + (p1 : Int) by omega) (by omega), wrap_i64 (show -9223372036854775808 ≤ 1 + (p2 : Int) by omega) (by omega), wrap_i64 (show -9223372036854775808 ≤ (p3 : Int) - 10 by omega) (by omega)]
  unfold hD wD tD dD
  rw [Int.natCast_add, Int.natCast_add]
  rfl
end Go.Proofs.Ytmknfenjnladeaa

namespace Go.Proofs.Ytmknfenjnladeaa
open Go.Ab Ieee

theorem rows_getD {t : List (List Int)} {r : List Int} (h : r ∈ t) : ∃ i, i < t.length ∧ t.getD i [] = r := by
  obtain ⟨i, hi, e⟩ := List.mem_iff_getElem.1 h
  exact ⟨i, hi, by rw [List.getD_eq_getElem?_getD, List.getElem?_eq_getElem hi]; exact e⟩
theorem ct_nat {d : Nat} (h : d < 4294967296) : CTok (.fl .f32) (d : Int) := ⟨Int.natCast_nonneg _, by omega⟩
/-- flue 'q' of a chimney was drawn, and leads to the trunk or nowhere -/
def DrR (t : List (List Int)) (tr : Int) (q : Nat) : Prop := ∃ i j k l : Nat, ∃ e : Int, i < 32 ∧ j < 16 ∧ k < 300 ∧ l < 9 ∧ t.getD q [] = [(hD i : Int), (wD j : Int), (tD k : Int), (dD l : Int), e] ∧ (e = -1 ∨ (e = tr ∧ (q : Int) ≠ tr))
/-- a chimney that was drawn -/
structure DrOk (t : List (List Int)) : Prop where
  n1 : 1 ≤ t.length
  n2 : t.length ≤ 5
  ex : ∃ tr : Nat, tr < t.length ∧ ∀ q, q < t.length → DrR t (tr : Int) q
theorem draw_rows {c : List (List Int)} (h : RowsOk SU c) (hl : c.length ≤ 4096) : ∀ (k a : Nat) (s : Int) (x : List (List Int)) (fuel : Nat), k < fuel → a + 8 * k ≤ 100000 → x.length + k ≤ 6 → (∀ q, q < x.length → DrR x (-1) q) →
    (k = 0 ∧ r54l0 fuel (k : Int) (a : Int) s x c = (1, 0, 0, [])) ∨ ∃ b s' y, r54l0 fuel (k : Int) (a : Int) s x c = (0, ((b : Nat) : Int), s', y) ∧ a ≤ b ∧ b ≤ a + 8 * k ∧ y.length = x.length + k ∧ ∀ q, q < y.length → DrR y (-1) q := by
  intro k
  induction k with
  | zero =>
    intro a s x fuel hf ha hx hd
    obtain ⟨m, rfl⟩ : ∃ m, fuel = m + 1 := ⟨fuel - 1, by omega⟩
    refine .inl ⟨rfl, ?_⟩
    show b54l0 (r54l0 m) _ _ _ _ _ = _
    unfold b54l0
    rfl
  | succ k ih =>
    intro a s x fuel hf ha hx hd
    obtain ⟨m, rfl⟩ : ∃ m, fuel = m + 1 := ⟨fuel - 1, by omega⟩
    obtain ⟨i, j, p, l, b, s1, e1, hi, hj, hp, hlt, l1, u1⟩ := draw_flue h (by omega) (a := a) (by omega) s
    have hd' : ∀ q, q < (x ++ [[(hD i : Int), (wD j : Int), (tD p : Int), (dD l : Int), -1]]).length → DrR (x ++ [[(hD i : Int), (wD j : Int), (tD p : Int), (dD l : Int), -1]]) (-1) q := by
      intro q hq
      rw [List.length_append] at hq
      by_cases g : q < x.length
      · obtain ⟨i', j', k', l', e', g1, g2, g3, g4, g5, g6⟩ := hd q g
        refine ⟨i', j', k', l', e', g1, g2, g3, g4, ?_, g6⟩
        rw [← g5]; simp [List.getD, List.getElem?_append_left g]
      · have hq' : q = x.length := by simp at hq; omega
        subst hq'
        exact ⟨i, j, p, l, -1, hi, hj, hp, hlt, by simp [List.getD], .inl rfl⟩
    have hih := ih b s1 (x ++ [[(hD i : Int), (wD j : Int), (tD p : Int), (dD l : Int), -1]]) m (by omega) (by omega) (by simp; omega) hd'
    refine .inr ?_
    show ∃ b s' y, b54l0 (r54l0 m) _ _ _ _ _ = _ ∧ _
    unfold b54l0
    simp only [e1, take_all]
    rw [decide_eq_true (show ((k + 1 : Nat) : Int) > 0 by omega), show Nat.ble ((x.length + 1) * 25) 140737488355328 = true from Nat.ble_eq_true_of_le (by omega), show IntKind.i64.wrap (((k + 1 : Nat) : Int) - 1) = (k : Int) from by rw [wrap_i64 (by omega) (by omega)]; omega]
    rcases hih with ⟨k0, e⟩ | ⟨b', s', y, e, l2, u2, hy, hdy⟩
    · rw [e]
      subst k0
      exact ⟨b, s1, _, rfl, l1, by omega, by simp, hd'⟩
    · rw [e]
      exact ⟨b', s', y, rfl, by omega, by omega, by rw [hy]; simp; omega, hdy⟩
theorem into_set {t : List (List Int)} {q : Nat} (hq : q < t.length) (v : Int) (j : Nat) : (t.modify q (fun r => spl 5 r 4 [v])).getD j [] = if j = q then spl 5 (t.getD q []) 4 [v] else t.getD j [] := by
  by_cases h : j = q
  · subst h; simp [List.getD, List.getElem?_modify, hq]
  · simp [List.getD, List.getElem?_modify, h, Ne.symm h]
theorem draw_into {c : List (List Int)} (h : RowsOk SU c) (hl : c.length ≤ 4096) (n tr : Nat) (hn : n ≤ 5) : ∀ (k i a : Nat) (s : Int) (x : List (List Int)) (fuel : Nat), i + k = n → k < fuel → a + 2 * k ≤ 100000 → x.length = n → (∀ q, q < n → DrR x (tr : Int) q) →
    ∃ b s' y, r54l1 fuel (n : Int) (tr : Int) (i : Int) (a : Int) s x c = (0, ((b : Nat) : Int), s', y) ∧ y.length = n ∧ ∀ q, q < n → DrR y (tr : Int) q := by
  intro k
  induction k with
  | zero =>
    intro i a s x fuel hik hf ha hx hd
    obtain ⟨m, rfl⟩ : ∃ m, fuel = m + 1 := ⟨fuel - 1, by omega⟩
    refine ⟨a, s, x, ?_, hx, hd⟩
    show b54l1 (r54l1 m) _ _ _ _ _ _ _ = _
    unfold b54l1
    rw [dlt_f (by omega)]; rfl
  | succ k ih =>
    intro i a s x fuel hik hf ha hx hd
    obtain ⟨m, rfl⟩ : ∃ m, fuel = m + 1 := ⟨fuel - 1, by omega⟩
    show ∃ b s' y, b54l1 (r54l1 m) _ _ _ _ _ _ _ = _ ∧ _
    unfold b54l1
    rw [dlt_t (show i < n by omega), wrap_succ (by omega)]
    by_cases hit : i = tr
    · subst hit
      rw [bne_self_eq_false]
      exact ih (i + 1) a s x m (by omega) (by omega) (by omega) hx hd
    · rw [show (((i : Nat) : Int) != (tr : Int)) = true from bne_iff_ne.2 (by omega)]
      obtain ⟨p, b, s1, e1, _, l1, u1⟩ := pick_ok h (by omega) (n := 3) (a := a) (by omega) (by decide) s
      have e1' : r56 3 (a : Int) s c = _ := e1
      have e89 : r122 (a : Int) s c = (0, ((p : Int) == 0), (b : Int), s1) := by unfold r122; rw [e1']; rfl
      simp only [e89, Int.toNat_natCast]
      rw [dle0, blt_t (show i < x.length by omega)]
      simp only [cond_true, cond_false, Nat.beq, Bool.and_self]
      cases ((p : Int) == 0) with
      | true => exact ih (i + 1) b s1 x m (by omega) (by omega) (by omega) hx hd
      | false =>
        refine ih (i + 1) b s1 (x.modify i (fun r => spl 5 r 4 [(tr : Int)])) m (by omega) (by omega) (by omega) (by rw [List.length_modify]; exact hx) (fun q hq => ?_)
        obtain ⟨i', j', k', l', e', g1, g2, g3, g4, g5, g6⟩ := hd q hq
        by_cases hqi : q = i
        · subst hqi
          refine ⟨i', j', k', l', tr, g1, g2, g3, g4, ?_, .inr ⟨rfl, by omega⟩⟩
          rw [into_set (by omega), if_pos rfl, g5]; rfl
        · refine ⟨i', j', k', l', e', g1, g2, g3, g4, ?_, g6⟩
          rw [into_set (by omega), if_neg hqi]; exact g5
theorem draw_ok {c : List (List Int)} (h : RowsOk SU c) (hl : c.length ≤ 4096) : ∃ t, r9 c = (0, t) ∧ DrOk t := by
  obtain ⟨p, a, s, e1, hp, l1, u1⟩ := pick_ok h (by omega) (n := 5) (a := 0) (by omega) (by decide) 0
  have e1' : r56 5 0 0 c = _ := e1
  have hw : IntKind.i64.wrap (1 + (p : Int)) = ((1 + p : Nat) : Int) := by rw [wrap_i64 (by omega) (by omega)]; omega
  rcases draw_rows h hl (1 + p) a s [] (1000 + c.length + 0) (by omega) (by omega) (by simp; omega) (fun q hq => absurd hq (Nat.not_lt_zero _)) with ⟨k0, _⟩ | ⟨b, s2, y, e2, l2, u2, hy, hd⟩
  · omega
  · rw [List.length_nil] at hy
    obtain ⟨tr, b2, s3, e3, htr, l3, u3⟩ := pick_ok h (by omega) (n := y.length) (a := b) (by omega) (by omega) s2
    obtain ⟨b4, s4, z, e4, hz, hdz⟩ := draw_into h hl y.length tr (by omega) y.length 0 b2 s3 y (1000 + c.length + y.length) (by omega) (by omega) (by omega) rfl (fun q hq => by
      obtain ⟨i', j', k', l', e', g1, g2, g3, g4, g5, g6⟩ := hd q hq
      exact ⟨i', j', k', l', e', g1, g2, g3, g4, g5, by rcases g6 with g | ⟨g, _⟩ <;> exact .inl g⟩)
    have e4' : r54l1 (1000 + c.length + y.length) ((y.length : Nat) : Int) (tr : Int) 0 (b2 : Int) s3 y c = _ := e4
    refine ⟨z, ?_, ⟨by omega, by omega, tr, by omega, by rw [hz]; exact hdz⟩⟩
    unfold r9 r54 r55
    simp only [e1', hw, e2, e3, e4']
    rfl
theorem DrOk.ch {t : List (List Int)} (h : DrOk t) : ChOk t := by
  obtain ⟨tr, htr, hd⟩ := h.ex
  have n1 := h.n1
  have n2 := h.n2
  have trn : ic t tr 4 = -1 := by
    obtain ⟨i, j, k, l, e, _, _, _, _, g5, g6⟩ := hd tr htr
    show (t.getD tr []).getD 4 0 = -1
    rw [g5]
    rcases g6 with g | ⟨_, g⟩
    · exact g
    · exact absurd rfl g
  refine ⟨?_, n1, by omega, fun q hq => ?_, fun q hq => ?_⟩
  · intro r hr
    obtain ⟨q, hq, e⟩ := rows_getD hr
    obtain ⟨i, j, k, l, e', g1, g2, g3, g4, g5, g6⟩ := hd q hq
    have f := flue_drawn g1 g2 g3 g4
    have f1 := f.h
    have f2 := f.w
    have f3 := f.t0
    have f4 := f.d
    rw [← e, g5]
    refine ⟨ct_nat (by omega), ct_nat (by omega), ct_nat f3, ct_nat (by omega), ?_, trivial⟩
    show IntKind.i64.min ≤ e' ∧ e' ≤ IntKind.i64.max
    have m1 : IntKind.i64.min = -9223372036854775808 := by decide
    have m2 : IntKind.i64.max = 9223372036854775807 := by decide
    rw [m1, m2]
    rcases g6 with g | ⟨g, _⟩ <;> omega
  · obtain ⟨i, j, k, l, e', g1, g2, g3, g4, g5, g6⟩ := hd q hq
    have f := flue_drawn g1 g2 g3 g4
    show FlueOk (Int.toNat ((t.getD q []).getD 0 0)) (Int.toNat ((t.getD q []).getD 1 0)) (Int.toNat ((t.getD q []).getD 2 0)) (Int.toNat ((t.getD q []).getD 3 0))
    rw [g5]
    exact f
  · obtain ⟨i, j, k, l, e', g1, g2, g3, g4, g5, g6⟩ := hd q hq
    have e : ic t q 4 = e' := by show (t.getD q []).getD 4 0 = e'; rw [g5]; rfl
    rw [e]
    rcases g6 with g | ⟨g, g'⟩
    · exact .inl g
    · refine .inr ⟨by omega, by omega, by omega, ?_⟩
      rw [g, Int.toNat_natCast]; exact trn
theorem pick14 {c : List (List Int)} (h : RowsOk SU c) (hl : c.length ≤ 4096) {n : Nat} (hn : n ≤ 1000) : ∃ p : Nat, r10 (n : Int) c = (0, (p : Int)) ∧ (p < n ∨ p = 0) := by
  obtain ⟨p, a, s, e1, hp, _⟩ := pick_ok h (by omega) (n := n) (a := 0) (by omega) hn 0
  have e1' : r56 (n : Int) 0 0 c = _ := e1
  refine ⟨p, ?_, hp⟩
  unfold r10 r55
  simp only [e1']
  rfl
end Go.Proofs.Ytmknfenjnladeaa

namespace Go.Proofs.Ytmknfenjnladeaa
open Go.Ab Ieee

/-- what is valid is told so -/
theorem valid_ok {t : List (List Int)} (hc : ChOk t) : r97 t = (0, true) ∧ r45 t = (0, true) := by
  have n1 := hc.n1
  have n2 := hc.n2
  have ha : allN t.length (pC t) = true := allN_true.2 fun i hi => by
    have hib : intoB t i = true := by
      unfold intoB
      rcases hc.into i hi with h | ⟨h1, h2, h3, h4⟩
      · rw [decide_eq_true h]; rfl
      · rw [decide_eq_true (show 0 ≤ ic t i 4 ∧ ic t i 4 < t.length ∧ ic t i 4 ≠ i from ⟨h1, h2, h3⟩), decide_eq_true h4, Bool.true_and, Bool.or_true]
    have h := hc.flue i hi
    have hH := h.h
    have hW := h.w
    have hD := h.d
    have a1 : r142 (fc t i 0) = true := by rw [(amount_eq _ (by omega)).2]; exact decide_eq_true hH
    have a2 : r142 (fc t i 1) = true := by rw [(amount_eq _ (by omega)).2]; exact decide_eq_true hW
    have b1 : r146 (fc t i 0) 1031798784 1106247680 = true := by
      unfold r146
      rw [fge_sv (by unfold Nn; omega) (by unfold Nn; decide) (by omega) (by decide), fle_sv (by unfold Nn; omega) (by unfold Nn; decide) (by omega) (by decide), decide_eq_true h.h1, decide_eq_true h.h2]; rfl
    have b2 : r146 (fc t i 1) 1015021568 1082130432 = true := by
      unfold r146
      rw [fge_sv (by unfold Nn; omega) (by unfold Nn; decide) (by omega) (by decide), fle_sv (by unfold Nn; omega) (by unfold Nn; decide) (by omega) (by decide), decide_eq_true h.w1, decide_eq_true h.w2]; rfl
    have b3 : r146 (fc t i 2) 3262119936 1153138688 = true := by
      unfold r146
      rw [fge_sv h.tn (by unfold Nn; decide) h.t0 (by decide), fle_sv h.tn (by unfold Nn; decide) h.t0 (by decide), decide_eq_true h.t1, decide_eq_true h.t2]; rfl
    have d1 : r78 (fc t i 3) = true := by
      unfold r78
      rw [(amount_eq _ (by omega)).2, decide_eq_true (show fc t i 3 < 2139095040 by omega), fle_sv (by unfold Nn; omega) (by unfold Nn; decide) (by omega) (by decide)]
      refine decide_eq_true ?_
      rw [sv_pos (by omega), sv_pos (by decide)]
      exact Int.ofNat_le.2 (rv_le hD)
    unfold pC flueB r107
    rw [hib, a1, a2, b1, b2, b3, d1]
    rfl
  unfold r97 r45
  rw [loopS hc.rows (by omega) (by omega), loopI (by omega) (by omega), ha]
  unfold r66
  rw [decide_eq_true (show (((t.length : Nat) : Int)) ≥ 1 by omega), decide_eq_false (show ¬ (((t.length : Nat) : Int)) < 1 by omega), decide_eq_true (show (((t.length : Nat) : Int)) ≤ 6 by omega), decide_eq_false (show ¬ (((t.length : Nat) : Int)) > 6 by omega)]
  exact ⟨rfl, rfl⟩
theorem code_ok {t : List (List Int)} (hc : ChOk t) {o w : Nat} (hw : WOk o w) : r60 o w t = (0, 0) ∧ r57 o w t = (0, 0) := by
  obtain ⟨v1, v2⟩ := valid_ok hc
  have h1 : r81 o = true := by
    unfold r81 r146
    rw [fge_sv hw.on (by unfold Nn; decide) hw.o0 (by decide), fle_sv hw.on (by unfold Nn; decide) hw.o0 (by decide), decide_eq_true hw.o1, decide_eq_true hw.o2]; rfl
  have h2 : r124 w = true := by
    unfold r124 r146
    rw [fge_sv hw.wn (by unfold Nn; decide) hw.w0 (by decide), fle_sv hw.wn (by unfold Nn; decide) hw.w0 (by decide), decide_eq_true hw.w1, decide_eq_true hw.w2]; rfl
  unfold r60 r57
  rw [v1, v2, out_eq, push_eq, h1, h2]
  exact ⟨rfl, rfl⟩
end Go.Proofs.Ytmknfenjnladeaa
