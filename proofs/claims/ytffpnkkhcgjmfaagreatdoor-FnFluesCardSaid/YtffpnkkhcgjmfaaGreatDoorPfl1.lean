/- What is drawn from bytes. -/
import Derived.Test.YtffpnkkhcgjmfaaGreatDoorPfr7
import Derived.Test.YtffpnkkhcgjmfaaGreatDoorPfn1
namespace Go.Proofs.YtffpnkkhcgjmfaaGreatDoor
open Go.Ab Ieee

abbrev SU : List CT := [.int .u8]
theorem byte_ok {c : List (List Int)} (h : RowsOk SU c) {i : Nat} (hi : i < c.length) : 0 ≤ ic c i 0 ∧ ic c i 0 ≤ 255 := by
  have := (h.get hi).get (j := 0) (t := .int .u8) rfl
  exact this
theorem and255 (x : Int) : 0 ≤ bits .and .u64 x 255 ∧ bits .and .u64 x 255 ≤ 255 := by
  have e : bits .and .u64 x 255 = IntKind.u64.wrap (((BitVec.ofInt 64 x &&& BitVec.ofInt 64 255).toNat : Nat) : Int) := rfl
  have h : (BitVec.ofInt 64 x &&& BitVec.ofInt 64 255).toNat ≤ 255 := by
    rw [BitVec.toNat_and]
    exact Nat.and_le_right
  generalize (BitVec.ofInt 64 x &&& BitVec.ofInt 64 255).toNat = n at *
  have w : IntKind.u64.wrap (n : Int) = (n : Int) := by
    have e2 : IntKind.u64.wrap (n : Int) = (n : Int) % 18446744073709551616 := by
      unfold IntKind.wrap
      rw [show IntKind.u64.bits = 64 from rfl, show IntKind.u64.signed = false from rfl]
      rfl
    rw [e2]; omega
  rw [e, w]
  omega
/-- the next number from 0 to 255 -/
theorem next_ok {c : List (List Int)} (h : RowsOk SU c) (hl : c.length ≤ 1048576) {a : Nat} (ha : a ≤ 1048576) (s : Int) : ∃ v s', r93 (a : Int) s c = (0, v, ((a + 1 : Nat) : Int), s') ∧ 0 ≤ v ∧ v ≤ 255 := by
  unfold r93
  rw [wrap_succ (by omega), Int.toNat_natCast]
  by_cases h1 : a < c.length
  · have hb := byte_ok h h1
    have wb : IntKind.i64.wrap (ic c a 0) = ic c a 0 := wrap_i64 (by omega) (by omega)
    rw [dlt_t h1, dle0, blt_t h1, decide_eq_true (show ((a + 1 : Nat) : Int) ≤ (c.length : Int) by omega)]
    exact ⟨_, _, rfl, by show 0 ≤ IntKind.i64.wrap (ic c a 0); rw [wb]; exact hb.1, by show IntKind.i64.wrap (ic c a 0) ≤ 255; rw [wb]; exact hb.2⟩
  · rw [dlt_f h1, decide_eq_false (show ¬ ((a + 1 : Nat) : Int) ≤ (c.length : Int) by omega)]
    refine ⟨_, _, rfl, ?_, ?_⟩
    · have g := and255 (Int.fdiv (IntKind.u64.wrap ((IntKind.u64.wrap ((IntKind.u64.wrap (s * 6364136223846793005)) + 0)) + 1442695040888963407)) (2 ^ (min (40 : Int).toNat (IntKind.bits .u64))))
      rw [wrap_i64 (by omega) (by omega)]; exact g.1
    · have g := and255 (Int.fdiv (IntKind.u64.wrap ((IntKind.u64.wrap ((IntKind.u64.wrap (s * 6364136223846793005)) + 0)) + 1442695040888963407)) (2 ^ (min (40 : Int).toNat (IntKind.bits .u64))))
      rw [wrap_i64 (by omega) (by omega)]; exact g.2
/-- a number from 0 to n - 1 -/
theorem pick_ok {c : List (List Int)} (h : RowsOk SU c) (hl : c.length ≤ 1048576) {n a : Nat} (ha : a + 2 ≤ 1048576) (hn : n ≤ 1000) (s : Int) : ∃ (p b : Nat) (s' : Int), r47 (n : Int) (a : Int) s c = (0, (p : Int), (b : Int), s') ∧ (p < n ∨ p = 0) ∧ a ≤ b ∧ b ≤ a + 2 := by
  unfold r47 w47
  by_cases h1 : n ≤ 1
  · rw [decide_eq_true (show (n : Int) ≤ 1 by omega)]
    exact ⟨0, a, s, rfl, .inr rfl, Nat.le_refl _, by omega⟩
  · rw [decide_eq_false (show ¬ (n : Int) ≤ 1 by omega)]
    obtain ⟨v, s1, e1, v0, v1⟩ := next_ok h hl (a := a) (by omega) s
    obtain ⟨w, s2, e2, w0, w1⟩ := next_ok h hl (a := a + 1) (by omega) s1
    simp only [e1, e2]
    rw [decide_eq_false (show ¬ (n : Int) = 0 by omega)]
    by_cases h2 : n > 200
    · rw [decide_eq_true (show (n : Int) > 200 by omega), wrap_i64 (show -9223372036854775808 ≤ v * 256 by omega) (by omega), wrap_i64 (by omega) (by omega), Int.tmod_eq_emod_of_nonneg (by omega)]
      have g0 := Int.emod_nonneg (v * 256 + w) (show (n : Int) ≠ 0 by omega)
      have g1 := Int.emod_lt_of_pos (v * 256 + w) (show 0 < (n : Int) by omega)
      refine ⟨((v * 256 + w) % n).toNat, a + 1 + 1, s2, ?_, by omega, by omega, by omega⟩
      rw [Int.toNat_of_nonneg g0]; rfl
    · rw [decide_eq_false (show ¬ (n : Int) > 200 by omega), Int.tmod_eq_emod_of_nonneg v0]
      have g0 := Int.emod_nonneg v (show (n : Int) ≠ 0 by omega)
      have g1 := Int.emod_lt_of_pos v (show 0 < (n : Int) by omega)
      refine ⟨(v % n).toNat, a + 1, s1, ?_, by omega, by omega, by omega⟩
      rw [Int.toNat_of_nonneg g0]; rfl
theorem cm60 : sv 3262119936 = -(60 * 2 ^ 149) := by decide +kernel
theorem c1500 : sv 1153138688 = 1500 * 2 ^ 149 := by decide +kernel
theorem c2 : sv 1073741824 = 2 * 2 ^ 149 := by decide +kernel
theorem c1 : sv 1065353216 = 2 ^ 149 := by decide +kernel
theorem c4 : sv 1082130432 = 4 * 2 ^ 149 := by decide +kernel
theorem c8 : sv 1090519040 = 8 * 2 ^ 149 := by decide +kernel
theorem c30 : sv 1106247680 = 30 * 2 ^ 149 := by decide +kernel
/-! ### flues that are drawn -/
noncomputable def hD (i : Nat) : Nat := fdiv .f32 (ofInt .f32 ((1 + i : Nat) : Int)) 1082130432
noncomputable def wD (i : Nat) : Nat := fdiv .f32 (ofInt .f32 ((1 + i : Nat) : Int)) 1098907648
noncomputable def tD (i : Nat) : Nat := ofInt .f32 ((i : Int) - 10)
noncomputable def dD (i : Nat) : Nat := fdiv .f32 (ofInt .f32 ((i : Nat) : Int)) 1090519040
theorem hD_all : ∀ i : Fin 32, fdiv .f32 (ofInt .f32 ((1 + i.val : Nat) : Int)) 1082130432 < 2139095040 ∧ sv 1031798784 ≤ sv (fdiv .f32 (ofInt .f32 ((1 + i.val : Nat) : Int)) 1082130432) ∧ sv (fdiv .f32 (ofInt .f32 ((1 + i.val : Nat) : Int)) 1082130432) ≤ sv 1090519040 := by decide +kernel
theorem wD_all : ∀ i : Fin 16, fdiv .f32 (ofInt .f32 ((1 + i.val : Nat) : Int)) 1098907648 < 2139095040 ∧ sv 1015021568 ≤ sv (fdiv .f32 (ofInt .f32 ((1 + i.val : Nat) : Int)) 1098907648) ∧ sv (fdiv .f32 (ofInt .f32 ((1 + i.val : Nat) : Int)) 1098907648) ≤ sv 1065353216 := by decide +kernel
theorem tD_all : ∀ i : Fin 300, ofInt .f32 ((i.val : Int) - 10) % 2147483648 < 2139095040 ∧ ofInt .f32 ((i.val : Int) - 10) < 4294967296 ∧ sv (ofInt .f32 ((i.val : Int) - 10)) = ((i.val : Int) - 10) * 2 ^ 149 := by decide +kernel
theorem hX_all : ∀ i : Fin 32, sv (fdiv .f32 (ofInt .f32 ((1 + i.val : Nat) : Int)) 1082130432) = ((4096 * (1 + i.val) : Nat) : Int) * 2 ^ 135 := by decide +kernel
theorem wX_all : ∀ i : Fin 16, sv (fdiv .f32 (ofInt .f32 ((1 + i.val : Nat) : Int)) 1098907648) = ((1024 * (1 + i.val) : Nat) : Int) * 2 ^ 135 := by decide +kernel
theorem dX_all : ∀ i : Fin 9, sv (fdiv .f32 (ofInt .f32 ((i.val : Nat) : Int)) 1090519040) = ((2048 * i.val : Nat) : Int) * 2 ^ 135 := by decide +kernel
theorem oX_all : ∀ i : Fin 240, ofInt .f32 ((i.val : Int) - 30) % 2147483648 < 2139095040 ∧ ofInt .f32 ((i.val : Int) - 30) < 4294967296 ∧ sv (ofInt .f32 ((i.val : Int) - 30)) = ((i.val : Int) - 30) * 2 ^ 149 := by decide +kernel
theorem dD_all : ∀ i : Fin 9, fdiv .f32 (ofInt .f32 ((i.val : Nat) : Int)) 1090519040 ≤ 1065353216 := by decide +kernel
/-- what is drawn is valid -/
theorem flue_drawn {i j k l : Nat} (hi : i < 32) (hj : j < 16) (hk : k < 300) (hl : l < 9) : FlueOk (hD i) (wD j) (tD k) (dD l) := by
  have a := hD_all ⟨i, hi⟩
  have b := wD_all ⟨j, hj⟩
  have c := tD_all ⟨k, hk⟩
  have d := dD_all ⟨l, hl⟩
  have e1 := c2
  have e2 := c30
  have e3 := c4
  have e4 := c1
  have e5 := c8
  have e6 := cm60
  have e7 := c1500
  refine ⟨a.1, b.1, d, a.2.1, ?_, b.2.1, ?_, ?_, c.2.1, ?_, ?_⟩
  · have := a.2.2
    show sv (fdiv .f32 (ofInt .f32 ((1 + i : Nat) : Int)) 1082130432) ≤ _
    simp only at this
    omega
  · have := b.2.2
    show sv (fdiv .f32 (ofInt .f32 ((1 + j : Nat) : Int)) 1098907648) ≤ _
    simp only at this
    omega
  · unfold Nn tD; exact Nat.le_of_lt c.1
  · have := c.2.2
    show _ ≤ sv (ofInt .f32 ((k : Int) - 10))
    simp only at this
    omega
  · have := c.2.2
    show sv (ofInt .f32 ((k : Int) - 10)) ≤ _
    simp only at this
    omega
/-- a flue that was drawn -/
structure DrF (r : List Int) (into : Int) : Prop where
  ex : ∃ i j k l : Nat, i < 32 ∧ j < 16 ∧ k < 300 ∧ l < 9 ∧ r = [(hD i : Int), (wD j : Int), (tD k : Int), (dD l : Int), into]
theorem draw_flue {c : List (List Int)} (h : RowsOk SU c) (hl : c.length ≤ 1048576) {a : Nat} (ha : a + 20 ≤ 1048576) (s : Int) : ∃ i j k l b : Nat, ∃ s' : Int, r87 (a : Int) s c = (0, hD i, wD j, tD k, dD l, -1, (b : Int), s') ∧ i < 32 ∧ j < 16 ∧ k < 300 ∧ l < 9 ∧ a ≤ b ∧ b ≤ a + 8 := by
  obtain ⟨p1, a1, s1, e1, h1, l1, u1⟩ := pick_ok h hl (n := 32) (a := a) (by omega) (by decide) s
  obtain ⟨p2, a2, s2, e2, h2, l2, u2⟩ := pick_ok h hl (n := 16) (a := a1) (by omega) (by decide) s1
  obtain ⟨p3, a3, s3, e3, h3, l3, u3⟩ := pick_ok h hl (n := 300) (a := a2) (by omega) (by decide) s2
  obtain ⟨p4, a4, s4, e4, h4, l4, u4⟩ := pick_ok h hl (n := 9) (a := a3) (by omega) (by decide) s3
  have e1' : r47 32 (a : Int) s c = _ := e1
  have e2' : r47 16 (a1 : Int) s1 c = _ := e2
  have e3' : r47 300 (a2 : Int) s2 c = _ := e3
  have e4' : r47 9 (a3 : Int) s3 c = _ := e4
  refine ⟨p1, p2, p3, p4, a4, s4, ?_, by omega, by omega, by omega, by omega, by omega, by omega⟩
  unfold r87 w87
  simp only [e1', e2', e3', e4']
  rw [wrap_i64 (show -9223372036854775808 ≤ 1 + (p1 : Int) by omega) (by omega), wrap_i64 (show -9223372036854775808 ≤ 1 + (p2 : Int) by omega) (by omega), wrap_i64 (show -9223372036854775808 ≤ (p3 : Int) - 10 by omega) (by omega)]
  unfold hD wD tD dD
  rw [Int.natCast_add, Int.natCast_add]
  rfl
end Go.Proofs.YtffpnkkhcgjmfaaGreatDoor

namespace Go.Proofs.YtffpnkkhcgjmfaaGreatDoor
open Go.Ab Ieee

theorem rows_getD {t : List (List Int)} {r : List Int} (h : r ∈ t) : ∃ i, i < t.length ∧ t.getD i [] = r := by
  obtain ⟨i, hi, e⟩ := List.mem_iff_getElem.1 h
  exact ⟨i, hi, by rw [List.getD_eq_getElem?_getD, List.getElem?_eq_getElem hi]; exact e⟩
theorem ct_nat {d : Nat} (h : d < 4294967296) : CTok (.fl .f32) (d : Int) := by
  unfold CTok; constructor <;> omega
/-- flue 'q' of a chimney was drawn, and leads to the trunk or nowhere -/
def DrR (t : List (List Int)) (tr : Int) (q : Nat) : Prop := ∃ i j k l : Nat, ∃ e : Int, i < 32 ∧ j < 16 ∧ k < 300 ∧ l < 9 ∧ t.getD q [] = [(hD i : Int), (wD j : Int), (tD k : Int), (dD l : Int), e] ∧ (e = -1 ∨ (e = tr ∧ (q : Int) ≠ tr))
/-- a chimney that was drawn -/
structure DrOk (t : List (List Int)) : Prop where
  n1 : 1 ≤ t.length
  n2 : t.length ≤ 5
  ex : ∃ tr : Nat, tr < t.length ∧ ∀ q, q < t.length → DrR t (tr : Int) q
theorem draw_rows {c : List (List Int)} (h : RowsOk SU c) (hl : c.length ≤ 4096) : ∀ (k a : Nat) (s : Int) (x : List (List Int)) (fuel : Nat), k < fuel → a + 8 * k ≤ 100000 → x.length + k ≤ 6 → (∀ q, q < x.length → DrR x (-1) q) →
    (k = 0 ∧ r42l0 fuel (k : Int) (a : Int) s x c = (1, 0, 0, [])) ∨ ∃ b s' y, r42l0 fuel (k : Int) (a : Int) s x c = (0, ((b : Nat) : Int), s', y) ∧ a ≤ b ∧ b ≤ a + 8 * k ∧ y.length = x.length + k ∧ ∀ q, q < y.length → DrR y (-1) q := by
  intro k
  induction k with
  | zero =>
    intro a s x fuel hf ha hx hd
    obtain ⟨m, rfl⟩ : ∃ m, fuel = m + 1 := ⟨fuel - 1, by omega⟩
    refine .inl ⟨rfl, ?_⟩
    show b42l0 (r42l0 m) _ _ _ _ _ = _
    unfold b42l0 w42l0
    rfl
  | succ k ih =>
    intro a s x fuel hf ha hx hd
    obtain ⟨m, rfl⟩ : ∃ m, fuel = m + 1 := ⟨fuel - 1, by omega⟩
    obtain ⟨i, j, p, l, b, s1, e1, hi, hj, hp, hlt, l1, u1⟩ := draw_flue h (by omega) (a := a) (by omega) s
    have hd' : ∀ q, q < (x ++ [[(hD i : Int), (wD j : Int), (tD p : Int), (dD l : Int), -1]]).length → DrR (x ++ [[(hD i : Int), (wD j : Int), (tD p : Int), (dD l : Int), -1]]) (-1) q := by
      intro q hq
      rw [List.length_append] at hq
      by_cases g : q < x.length
      · obtain ⟨i', j', k', l', e', g1, g2, g3, g4, g5, g6⟩ := hd q g
        refine ⟨i', j', k', l', e', g1, g2, g3, g4, ?_, g6⟩
        rw [← g5]; simp [List.getD, List.getElem?_append_left g]
      · have hq' : q = x.length := by simp at hq; omega
        subst hq'
        exact ⟨i, j, p, l, -1, hi, hj, hp, hlt, by simp [List.getD], .inl rfl⟩
    have hih := ih b s1 (x ++ [[(hD i : Int), (wD j : Int), (tD p : Int), (dD l : Int), -1]]) m (by omega) (by omega) (by simp; omega) hd'
    refine .inr ?_
    show ∃ b s' y, b42l0 (r42l0 m) _ _ _ _ _ = _ ∧ _
    unfold b42l0 w42l0
    simp only [e1, take_all]
    rw [decide_eq_true (show ((k + 1 : Nat) : Int) > 0 by omega), show Nat.ble ((x.length + 1) * 25) 140737488355328 = true from Nat.ble_eq_true_of_le (by omega), show IntKind.i64.wrap (((k + 1 : Nat) : Int) - 1) = (k : Int) from by rw [wrap_i64 (by omega) (by omega)]; omega]
    rcases hih with ⟨k0, e⟩ | ⟨b', s', y, e, l2, u2, hy, hdy⟩
    · rw [e]
      subst k0
      exact ⟨b, s1, _, rfl, l1, by omega, by simp, hd'⟩
    · rw [e]
      exact ⟨b', s', y, rfl, by omega, by omega, by rw [hy]; simp; omega, hdy⟩
theorem into_set {t : List (List Int)} {q : Nat} (hq : q < t.length) (v : Int) (j : Nat) : (t.modify q (fun r => spl 5 r 4 [v])).getD j [] = if j = q then spl 5 (t.getD q []) 4 [v] else t.getD j [] := by
  by_cases h : j = q
  · subst h; simp [List.getD, List.getElem?_modify, hq]
  · simp [List.getD, List.getElem?_modify, h, Ne.symm h]
theorem draw_into {c : List (List Int)} (h : RowsOk SU c) (hl : c.length ≤ 4096) (n tr : Nat) (hn : n ≤ 5) : ∀ (k i a : Nat) (s : Int) (x : List (List Int)) (fuel : Nat), i + k = n → k < fuel → a + 2 * k ≤ 100000 → x.length = n → (∀ q, q < n → DrR x (tr : Int) q) →
    ∃ b s' y, r42l1 fuel (n : Int) (tr : Int) (i : Int) (a : Int) s x c = (0, ((b : Nat) : Int), s', y) ∧ y.length = n ∧ ∀ q, q < n → DrR y (tr : Int) q := by
  intro k
  induction k with
  | zero =>
    intro i a s x fuel hik hf ha hx hd
    obtain ⟨m, rfl⟩ : ∃ m, fuel = m + 1 := ⟨fuel - 1, by omega⟩
    refine ⟨a, s, x, ?_, hx, hd⟩
    show b42l1 (r42l1 m) _ _ _ _ _ _ _ = _
    unfold b42l1
    rw [dlt_f (by omega)]; rfl
  | succ k ih =>
    intro i a s x fuel hik hf ha hx hd
    obtain ⟨m, rfl⟩ : ∃ m, fuel = m + 1 := ⟨fuel - 1, by omega⟩
    show ∃ b s' y, b42l1 (r42l1 m) _ _ _ _ _ _ _ = _ ∧ _
    unfold b42l1
    rw [dlt_t (show i < n by omega), wrap_succ (by omega)]
    by_cases hit : i = tr
    · subst hit
      rw [bne_self_eq_false]
      exact ih (i + 1) a s x m (by omega) (by omega) (by omega) hx hd
    · rw [show (((i : Nat) : Int) != (tr : Int)) = true from bne_iff_ne.2 (by omega)]
      obtain ⟨p, b, s1, e1, _, l1, u1⟩ := pick_ok h (by omega) (n := 3) (a := a) (by omega) (by decide) s
      have e1' : r47 3 (a : Int) s c = _ := e1
      have e89 : r88 (a : Int) s c = (0, ((p : Int) == 0), (b : Int), s1) := by unfold r88 w88; rw [e1']; rfl
      simp only [e89, Int.toNat_natCast]
      rw [dle0, blt_t (show i < x.length by omega)]
      simp only [cond_true, cond_false, Nat.beq, Bool.and_self]
      cases ((p : Int) == 0) with
      | true => exact ih (i + 1) b s1 x m (by omega) (by omega) (by omega) hx hd
      | false =>
        refine ih (i + 1) b s1 (x.modify i (fun r => spl 5 r 4 [(tr : Int)])) m (by omega) (by omega) (by omega) (by rw [List.length_modify]; exact hx) (fun q hq => ?_)
        obtain ⟨i', j', k', l', e', g1, g2, g3, g4, g5, g6⟩ := hd q hq
        by_cases hqi : q = i
        · subst hqi
          refine ⟨i', j', k', l', tr, g1, g2, g3, g4, ?_, .inr ⟨rfl, by omega⟩⟩
          rw [into_set (by omega), if_pos rfl, g5]; rfl
        · refine ⟨i', j', k', l', e', g1, g2, g3, g4, ?_, g6⟩
          rw [into_set (by omega), if_neg hqi]; exact g5
theorem draw_ok {c : List (List Int)} (h : RowsOk SU c) (hl : c.length ≤ 4096) : ∃ t, r12 c = (0, t) ∧ DrOk t := by
  obtain ⟨p, a, s, e1, hp, l1, u1⟩ := pick_ok h (by omega) (n := 5) (a := 0) (by omega) (by decide) 0
  have e1' : r47 5 0 0 c = _ := e1
  have hw : IntKind.i64.wrap (1 + (p : Int)) = ((1 + p : Nat) : Int) := by rw [wrap_i64 (by omega) (by omega)]; omega
  rcases draw_rows h hl (1 + p) a s [] (1000 + c.length + 0) (by omega) (by omega) (by simp; omega) (fun q hq => absurd hq (Nat.not_lt_zero _)) with ⟨k0, _⟩ | ⟨b, s2, y, e2, l2, u2, hy, hd⟩
  · omega
  · rw [List.length_nil] at hy
    obtain ⟨tr, b2, s3, e3, htr, l3, u3⟩ := pick_ok h (by omega) (n := y.length) (a := b) (by omega) (by omega) s2
    obtain ⟨b4, s4, z, e4, hz, hdz⟩ := draw_into h hl y.length tr (by omega) y.length 0 b2 s3 y (1000 + c.length + y.length) (by omega) (by omega) (by omega) rfl (fun q hq => by
      obtain ⟨i', j', k', l', e', g1, g2, g3, g4, g5, g6⟩ := hd q hq
      exact ⟨i', j', k', l', e', g1, g2, g3, g4, g5, by rcases g6 with g | ⟨g, _⟩ <;> exact .inl g⟩)
    have e4' : r42l1 (1000 + c.length + y.length) ((y.length : Nat) : Int) (tr : Int) 0 (b2 : Int) s3 y c = _ := e4
    refine ⟨z, ?_, ⟨by omega, by omega, tr, by omega, by rw [hz]; exact hdz⟩⟩
    unfold r12 w12 r42 w42 r43 w43
    simp only [e1', hw, e2, e3, e4']
    rfl
theorem DrOk.ch {t : List (List Int)} (h : DrOk t) : ChOk t := by
  obtain ⟨tr, htr, hd⟩ := h.ex
  have n1 := h.n1
  have n2 := h.n2
  have trn : ic t tr 4 = -1 := by
    obtain ⟨i, j, k, l, e, _, _, _, _, g5, g6⟩ := hd tr htr
    show (t.getD tr []).getD 4 0 = -1
    rw [g5]
    rcases g6 with g | ⟨_, g⟩
    · exact g
    · exact absurd rfl g
  refine ⟨?_, n1, by omega, fun q hq => ?_, fun q hq => ?_⟩
  · intro r hr
    obtain ⟨q, hq, e⟩ := rows_getD hr
    obtain ⟨i, j, k, l, e', g1, g2, g3, g4, g5, g6⟩ := hd q hq
    have f := flue_drawn g1 g2 g3 g4
    have f1 := f.h
    have f2 := f.w
    have f3 := f.t0
    have f4 := f.d
    rw [← e, g5]
    refine ⟨ct_nat (by omega), ct_nat (by omega), ct_nat f3, ct_nat (by omega), ?_, trivial⟩
    show IntKind.i64.min ≤ e' ∧ e' ≤ IntKind.i64.max
    have m1 : IntKind.i64.min = -9223372036854775808 := by decide
    have m2 : IntKind.i64.max = 9223372036854775807 := by decide
    rw [m1, m2]
    rcases g6 with g | ⟨g, _⟩ <;> omega
  · obtain ⟨i, j, k, l, e', g1, g2, g3, g4, g5, g6⟩ := hd q hq
    have f := flue_drawn g1 g2 g3 g4
    show FlueOk (Int.toNat ((t.getD q []).getD 0 0)) (Int.toNat ((t.getD q []).getD 1 0)) (Int.toNat ((t.getD q []).getD 2 0)) (Int.toNat ((t.getD q []).getD 3 0))
    rw [g5]
    exact f
  · obtain ⟨i, j, k, l, e', g1, g2, g3, g4, g5, g6⟩ := hd q hq
    have e : ic t q 4 = e' := by show (t.getD q []).getD 4 0 = e'; rw [g5]; rfl
    rw [e]
    rcases g6 with g | ⟨g, g'⟩
    · exact .inl g
    · refine .inr ⟨by omega, by omega, by omega, ?_⟩
      rw [g, Int.toNat_natCast]; exact trn
theorem pick14 {c : List (List Int)} (h : RowsOk SU c) (hl : c.length ≤ 4096) {n : Nat} (hn : n ≤ 1000) : ∃ p : Nat, r17 (n : Int) c = (0, (p : Int)) ∧ (p < n ∨ p = 0) := by
  obtain ⟨p, a, s, e1, hp, _⟩ := pick_ok h (by omega) (n := n) (a := 0) (by omega) hn 0
  have e1' : r47 (n : Int) 0 0 c = _ := e1
  refine ⟨p, ?_, hp⟩
  unfold r17 w17 r43 w43
  simp only [e1']
  rfl
end Go.Proofs.YtffpnkkhcgjmfaaGreatDoor

namespace Go.Proofs.YtffpnkkhcgjmfaaGreatDoor
open Go.Ab Ieee
set_option maxRecDepth 100000

/-- a whole number of degrees, 30 more -/
noncomputable def oI (i : Nat) : Nat := ofInt .f32 ((i : Int) - 30)
theorem oX {i : Nat} (h : i < 240) : X (((i : Int) - 30) * 16384) (oI i) := by
  have a := oX_all ⟨i, h⟩
  refine ⟨a.1, a.2.1, ?_⟩
  have e : sv (oI i) = ((i : Int) - 30) * 2 ^ 149 := a.2.2
  rw [e, Int.mul_assoc]; rfl
theorem tX {i : Nat} (h : i < 300) : X (((i : Int) - 10) * 16384) (tD i) := by
  have a := tD_all ⟨i, h⟩
  refine ⟨a.1, a.2.1, ?_⟩
  have e : sv (tD i) = ((i : Int) - 10) * 2 ^ 149 := a.2.2
  rw [e, Int.mul_assoc]; rfl
theorem X273 : X (273 * 16384) 1133019136 := ⟨by unfold Fi; decide, by decide, by decide +kernel⟩
/-- a heat, 273 more -/
theorem kelvin {T : Nat} {t : Int} (h : X (t * 16384) T) (h0 : -20 ≤ t) (h1 : t ≤ 489) : X ((((t + 273).toNat : Nat) : Int) * 16384) (fadd .f32 T 1133019136) := by
  have e : (((t + 273).toNat : Nat) : Int) * 16384 = t * 16384 + 273 * 16384 := by rw [Int.toNat_of_nonneg (by omega)]; omega
  rw [e]
  exact h.add X273 (by omega) (by omega)
/-- how dense air is at some degrees -/
structure Den (t : Int) (a : Nat) : Prop where
  fi : Fi a
  lt : a < 4294967296
  up : sv a ≤ Qd (t + 273).toNat + 2 ^ 127
  dn : (Qd (t + 273).toNat : Int) ≤ sv a + 2 ^ 127
theorem den {T : Nat} {t : Int} (h : X (t * 16384) T) (h0 : -20 ≤ t) (h1 : t ≤ 489) : Den t (r49 T) := by
  obtain ⟨a, b, c, d⟩ := dense_ok (kelvin h h0 h1) (by omega) (by omega)
  exact ⟨a, b, c, d⟩
theorem den_lt {t s : Int} {a b : Nat} (ha : Den t a) (hb : Den s b) (h0 : -20 ≤ t) (h : t < s) (h1 : s ≤ 489) : sv b + 8 * 2 ^ 135 ≤ sv a := by
  have q := Qd_lt (u := (t + 273).toNat) (v := (s + 273).toNat) (by omega) (by omega) (by omega)
  have a1 := ha.dn
  have b1 := hb.up
  generalize Qd (t + 273).toNat = A at *
  generalize Qd (s + 273).toNat = B at *
  omega
/-- a draft: heats of so many degrees, a height of so many quarters -/
structure Drf (i : Nat) (o t : Int) (x : Nat) : Prop where
  fi : Fi x
  lt : x < 4294967296
  up : sv x * 2 ^ 14 ≤ (39936 * (1 + i : Nat) : Int) * ((Qd (o + 273).toNat : Int) - Qd (t + 273).toNat) + 2 ^ 151
  dn : (39936 * (1 + i : Nat) : Int) * ((Qd (o + 273).toNat : Int) - Qd (t + 273).toNat) ≤ sv x * 2 ^ 14 + 2 ^ 151
theorem hX {i : Nat} (h : i < 32) : X ((4096 * (1 + i) : Nat) : Int) (hD i) := by
  have a := hX_all ⟨i, h⟩
  have b := (hD_all ⟨i, h⟩).1
  refine ⟨?_, ?_, a⟩
  · show hD i % 2147483648 < 2139095040
    have : hD i < 2139095040 := b
    omega
  · have : hD i < 2139095040 := b
    omega
theorem wX {i : Nat} (h : i < 16) : X ((1024 * (1 + i) : Nat) : Int) (wD i) := by
  have a := wX_all ⟨i, h⟩
  have b := (wD_all ⟨i, h⟩).1
  have c : wD i < 2139095040 := b
  exact ⟨by unfold Fi; omega, by omega, a⟩
theorem dX {i : Nat} (h : i < 9) : X ((2048 * i : Nat) : Int) (dD i) := by
  have a := dX_all ⟨i, h⟩
  have b := dD_all ⟨i, h⟩
  have c : dD i ≤ 1065353216 := b
  exact ⟨by unfold Fi; omega, by omega, a⟩
theorem X975 : X 159744 1092354048 := ⟨by unfold Fi; decide, by decide, by decide +kernel⟩
theorem drf {i : Nat} (hi : i < 32) {o t : Int} {O T W D : Nat} {e : Int} (hO : X (o * 16384) O) (hT : X (t * 16384) T) (o0 : -20 ≤ o) (o1 : o ≤ 489) (t0 : -20 ≤ t) (t1 : t ≤ 489) : Drf i o t (r51 (hD i) W T D e O) := by
  have a := den hO o0 o1
  have b := den hT t0 t1
  have q := Qd_hi (u := (o + 273).toNat) (by omega) (by omega)
  have q' := Qd_hi (u := (t + 273).toNat) (by omega) (by omega)
  have a1 := a.up; have a2 := a.dn; have b1 := b.up; have b2 := b.dn
  have c := X975.mul (hX hi) (k := ((39936 * (1 + i) : Nat) : Int)) (by omega) (by omega) (by omega)
  show Drf i o t (fmul .f32 (fmul .f32 1092354048 (hD i)) (fsub .f32 (r49 O) (r49 T)))
  have d := diff_err a.fi b.fi a1 a2 b1 b2 (by omega) (by omega) (by omega) (by omega)
  have x := draft_err (C := ((39936 * (1 + i) : Nat) : Int)) c.fi d.1 c.sv (by omega) (by omega) d.2.1 d.2.2 (by omega) (by omega)
  refine ⟨x.1, x.2.1, ?_, ?_⟩
  · have := x.2.2.1
    rw [show ((39936 * (1 + i : Nat) : Nat) : Int) = 39936 * ((1 + i : Nat) : Int) from Int.natCast_mul _ _] at this
    exact this
  · have := x.2.2.2
    rw [show ((39936 * (1 + i : Nat) : Nat) : Int) = 39936 * ((1 + i : Nat) : Int) from Int.natCast_mul _ _] at this
    exact this
theorem Drf.bound {i : Nat} {o t : Int} {x : Nat} (h : Drf i o t x) (hi : i < 32) (o0 : -20 ≤ o) (o1 : o ≤ 489) (t0 : -20 ≤ t) (t1 : t ≤ 489) : sv x ≤ 2 ^ 156 ∧ -(2 ^ 156) ≤ sv x := by
  have q := Qd_hi (u := (o + 273).toNat) (by omega) (by omega)
  have q' := Qd_hi (u := (t + 273).toNat) (by omega) (by omega)
  have u := h.up
  have d := h.dn
  generalize Qd (o + 273).toNat = A at *
  generalize Qd (t + 273).toNat = B at *
  have k : (39936 * (1 + i : Nat) : Int) * ((A : Int) - B) ≤ 39936 * (1 + i : Nat) * (6 * 2 ^ 147) := Int.mul_le_mul_of_nonneg_left (by omega) (by omega)
  have k' : (39936 * (1 + i : Nat) : Int) * (-(6 * 2 ^ 147)) ≤ 39936 * (1 + i : Nat) * ((A : Int) - B) := Int.mul_le_mul_of_nonneg_left (by omega) (by omega)
  generalize (39936 * (1 + i : Nat) : Int) * ((A : Int) - B) = z at *
  omega
/-- a hotter flue draws more -/
theorem Drf.more {i : Nat} {o t s : Int} {x y : Nat} (h : Drf i o t x) (h' : Drf i o s y) (t0 : -20 ≤ t) (ts : t < s) (s1 : s ≤ 489) : sv x + 2 ^ 138 ≤ sv y := by
  have q := Qd_lt (u := (t + 273).toNat) (v := (s + 273).toNat) (by omega) (by omega) (by omega)
  have u := h.up
  have d := h'.dn
  generalize Qd (o + 273).toNat = A at *
  generalize Qd (t + 273).toNat = B at *
  generalize Qd (s + 273).toNat = B' at *
  have k : (39936 * (1 + i : Nat) : Int) * ((A : Int) - B + 9 * 2 ^ 135) ≤ 39936 * (1 + i : Nat) * ((A : Int) - B') := Int.mul_le_mul_of_nonneg_left (by omega) (by omega)
  rw [Int.mul_add] at k
  generalize (39936 * (1 + i : Nat) : Int) * ((A : Int) - B) = z at *
  generalize (39936 * (1 + i : Nat) : Int) * ((A : Int) - B') = z' at *
  omega
/-- what is hotter than the air draws -/
theorem Drf.pos {i : Nat} {o t : Int} {x : Nat} (h : Drf i o t x) (o0 : -20 ≤ o) (ot : o < t) (t1 : t ≤ 489) : 2 ^ 138 ≤ sv x := by
  have q := Qd_lt (u := (o + 273).toNat) (v := (t + 273).toNat) (by omega) (by omega) (by omega)
  have d := h.dn
  generalize Qd (o + 273).toNat = A at *
  generalize Qd (t + 273).toNat = B at *
  have k : (39936 * (1 + i : Nat) : Int) * (9 * 2 ^ 135) ≤ 39936 * (1 + i : Nat) * ((A : Int) - B) := Int.mul_le_mul_of_nonneg_left (by omega) (by omega)
  generalize (39936 * (1 + i : Nat) : Int) * ((A : Int) - B) = z at *
  omega
theorem Drf.neg {i : Nat} {o t : Int} {x : Nat} (h : Drf i o t x) (t0 : -20 ≤ t) (ot : t < o) (o1 : o ≤ 489) : sv x ≤ -(2 ^ 138) := by
  have q := Qd_lt (u := (t + 273).toNat) (v := (o + 273).toNat) (by omega) (by omega) (by omega)
  have d := h.up
  generalize Qd (o + 273).toNat = A at *
  generalize Qd (t + 273).toNat = B at *
  have k : (39936 * (1 + i : Nat) : Int) * (9 * 2 ^ 135) ≤ 39936 * (1 + i : Nat) * ((B : Int) - A) := Int.mul_le_mul_of_nonneg_left (by omega) (by omega)
  rw [show (39936 * (1 + i : Nat) : Int) * ((B : Int) - A) = -(39936 * (1 + i : Nat) * ((A : Int) - B)) by grind] at k
  generalize (39936 * (1 + i : Nat) : Int) * ((A : Int) - B) = z at *
  omega
/-- resistances -/
theorem X1 : X 16384 1065353216 := ⟨by unfold Fi; decide, by decide, by decide +kernel⟩
theorem X025 : X 4096 1048576000 := ⟨by unfold Fi; decide, by decide, by decide +kernel⟩
theorem res {i j l : Nat} (hi : i < 32) (hj : j < 16) (hl : 1 ≤ l) (hl2 : l < 9) {T : Nat} {e : Int} :
    Fi (r58 (hD i) (wD j) T (dD l) e) ∧ r58 (hD i) (wD j) T (dD l) e < 4294967296 ∧ 2 ^ 149 ≤ sv (r58 (hD i) (wD j) T (dD l) e) ∧ sv (r58 (hD i) (wD j) T (dD l) e) ≤ 2 ^ 165 ∧
      sv (r58 (hD i) (wD j) T (dD l) e) * ((((1 + j) * l : Nat) : Int) * (((1 + j) * l : Nat) : Int)) * 2 ^ 23 ≤ ((17408 + 1024 * i : Nat) : Int) * 2 ^ 149 * (2 ^ 23 + 1) + (((1 + j) * l : Nat) : Int) * (((1 + j) * l : Nat) : Int) * 2 ^ 23 ∧
      ((17408 + 1024 * i : Nat) : Int) * 2 ^ 149 * 2 ^ 23 ≤ sv (r58 (hD i) (wD j) T (dD l) e) * ((((1 + j) * l : Nat) : Int) * (((1 + j) * l : Nat) : Int)) * (2 ^ 23 + 1) + (((1 + j) * l : Nat) : Int) * (((1 + j) * l : Nat) : Int) * 2 ^ 23 := by
  have b1 : (1 + j) * l ≤ 16 * 8 := Nat.mul_le_mul (by omega) (by omega)
  have b2 : 1 * 1 ≤ (1 + j) * l := Nat.mul_le_mul (by omega) hl
  have q := X025.mul (hX hi) (k := ((1024 * (1 + i) : Nat) : Int)) (by omega) (by omega) (by omega)
  have n := X1.add q (by omega) (by omega)
  rw [show (16384 : Int) + ((1024 * (1 + i) : Nat) : Int) = ((17408 + 1024 * i : Nat) : Int) by omega] at n
  have m := (wX hj).mul (dX hl2) (k := ((128 * ((1 + j) * l) : Nat) : Int)) (by
    rw [← Int.natCast_mul]
    have : 1024 * (1 + j) * (2048 * l) = 128 * ((1 + j) * l) * 2 ^ 14 := by grind
    rw [this]; rfl) (by omega) (by omega)
  generalize hM : (1 + j) * l = M at *
  have mm : M * M ≤ 128 * 128 := Nat.mul_le_mul (by omega) (by omega)
  have m2 := m.mul m (k := (M : Int) * (M : Int)) (by
    rw [← Int.natCast_mul, ← Int.natCast_mul]
    have : 128 * M * (128 * M) = M * M * 2 ^ 14 := by grind
    rw [this]; rfl) (by rw [← Int.natCast_mul]; omega) (by rw [← Int.natCast_mul]; omega)
  exact resist_err (n := ((17408 + 1024 * i : Nat) : Int)) (m := (M : Int)) n m2 (by omega) (by omega) (by omega) (by omega)
/-- an open damper: the resistance is well less -/
theorem res_less {i j l : Nat} (hi : i < 32) (hj : j < 16) (hl : 1 ≤ l) (hl2 : l < 8) {T : Nat} {e : Int} : sv (r58 (hD i) (wD j) T (dD 8) e) * 13 ≤ sv (r58 (hD i) (wD j) T (dD l) e) * 10 := by
  obtain ⟨_, _, a1, a2, _, a3⟩ := res hi hj hl (by omega) (T := T) (e := e)
  obtain ⟨_, _, b1, b2, b3, _⟩ := res hi hj (show 1 ≤ 8 by decide) (by decide) (T := T) (e := e)
  generalize sv (r58 (hD i) (wD j) T (dD l) e) = R at *
  generalize sv (r58 (hD i) (wD j) T (dD 8) e) = S at *
  have J0 : (1 : Int) * 1 ≤ ((1 + j : Nat) : Int) * ((1 + j : Nat) : Int) := Int.mul_le_mul (by omega) (by omega) (by decide) (by omega)
  have e1 : (((1 + j) * l : Nat) : Int) * (((1 + j) * l : Nat) : Int) = ((1 + j : Nat) : Int) * ((1 + j : Nat) : Int) * ((l : Int) * l) := by rw [Int.natCast_mul]; grind
  have e2 : (((1 + j) * 8 : Nat) : Int) * (((1 + j) * 8 : Nat) : Int) = ((1 + j : Nat) : Int) * ((1 + j : Nat) : Int) * 64 := by rw [Int.natCast_mul]; grind
  rw [e1] at a3
  rw [e2] at b3
  have ll : (l : Int) * l ≤ 7 * 7 := Int.mul_le_mul (by omega) (by omega) (by omega) (by decide)
  have l0 : (0 : Int) ≤ (l : Int) * l := Int.mul_nonneg (by omega) (by omega)
  generalize ((1 + j : Nat) : Int) * ((1 + j : Nat) : Int) = J at *
  generalize (l : Int) * l = L at *
  generalize ((17408 + 1024 * i : Nat) : Int) * 2 ^ 149 = N at *
  have k := Int.mul_le_mul_of_nonneg_left (show L ≤ 49 by omega) (show 0 ≤ R * J by exact Int.mul_nonneg (by omega) (by omega))
  have k2 := Int.mul_le_mul_of_nonneg_left (show L ≤ 49 by omega) (show 0 ≤ J by omega)
  refine div_pos (show 0 < J by omega) ?_
  rw [show S * 13 * J = S * J * 13 by grind, show R * 10 * J = R * J * 10 by grind]
  rw [show R * (J * L) = R * J * L by grind] at a3
  rw [show S * (J * 64) = S * J * 64 by grind] at b3
  have rj : 2 ^ 149 * J ≤ R * J := Int.mul_le_mul_of_nonneg_right a1 (by omega)
  generalize R * J * L = RJL at *
  generalize J * L = JL at *
  generalize R * J = RJ at *
  generalize S * J = SJ at *
  omega
end Go.Proofs.YtffpnkkhcgjmfaaGreatDoor

namespace Go.Proofs.YtffpnkkhcgjmfaaGreatDoor
open Go.Ab Ieee
set_option maxRecDepth 100000

theorem fr_zero {a d : Nat} {n : Int} (h : Fr a n d) (hn : n = 0) : sv a = 0 := by
  subst hn
  have x := h.le 0 (by decide) (by rw [show rval F32 0 = 0 from rval_zero F32]; simp)
  have y := h.ge 0 (by decide) (by rw [show rval F32 0 = 0 from rval_zero F32]; simp)
  rw [show rval F32 0 = 0 from rval_zero F32] at x y
  exact Int.le_antisymm x y
theorem x_uniq {n : Int} {a b : Nat} (ha : X n a) (hb : X n b) (h : 0 < n) : a = b := by
  have pa : 0 < sv a := by rw [ha.sv]; omega
  have pb : 0 < sv b := by rw [hb.sv]; omega
  rcases sign_of ha.fi ha.lt with g | ⟨_, a1, a2⟩ | g
  · omega
  · rcases sign_of hb.fi hb.lt with g | ⟨_, b1, b2⟩ | g
    · omega
    · refine rval_inj F32 ?_
      have e : sv a = sv b := by rw [ha.sv, hb.sv]
      rw [a2, b2] at e
      exact Int.ofNat.inj e
    · omega
  · omega
theorem drf_zero {i : Nat} (hi : i < 32) {t : Int} {O T W D : Nat} {e : Int} (hO : X (t * 16384) O) (hT : X (t * 16384) T) (t0 : -20 ≤ t) (t1 : t ≤ 489) : sv (r51 (hD i) W T D e O) = 0 := by
  have a := kelvin hO t0 t1
  have b := kelvin hT t0 t1
  have e1 : fadd .f32 O 1133019136 = fadd .f32 T 1133019136 := x_uniq a b (by omega)
  have d1 := den hT t0 t1
  have e2 : r49 O = r49 T := by
    show fdiv .f32 1135640576 (fadd .f32 O 1133019136) = fdiv .f32 1135640576 (fadd .f32 T 1133019136)
    rw [e1]
  show sv (fmul .f32 (fmul .f32 1092354048 (hD i)) (fsub .f32 (r49 O) (r49 T))) = 0
  rw [e2]
  have F := FM_200
  have s := sub_fr d1.fi d1.fi (by rw [Int.sub_self]; omega) (by rw [Int.sub_self]; omega)
  have z := fr_zero s (Int.sub_self _)
  have c := X975.mul (hX hi) (k := ((39936 * (1 + i) : Nat) : Int)) (by omega) (by omega) (by omega)
  have m := mul_fr c.fi s.fi (by rw [z, Int.mul_zero]; exact Int.mul_nonneg (Int.le_trans (by decide) F) (by decide)) (by rw [z, Int.mul_zero]; exact Int.neg_nonpos_of_nonneg (Int.mul_nonneg (Int.le_trans (by decide) F) (by decide)))
  exact fr_zero m (by rw [z, Int.mul_zero])
theorem dD0 : dD 0 = 0 := by
  have : fdiv .f32 (ofInt .f32 ((0 : Nat) : Int)) 1090519040 = 0 := by decide +kernel
  exact this
theorem dD8 : dD 8 = 1065353216 := by
  have : fdiv .f32 (ofInt .f32 ((8 : Nat) : Int)) 1090519040 = 1065353216 := by decide +kernel
  exact this
/-- a flue whose heat is a whole number -/
theorem flue_x {i j l : Nat} (hi : i < 32) (hj : j < 16) (hl : l < 9) {T : Nat} {t : Int} (hT : X (t * 16384) T) (t0 : -20 ≤ t) (t1 : t ≤ 489) : FlueOk (hD i) (wD j) T (dD l) := by
  have f := flue_drawn hi hj (show 0 < 300 by decide) hl
  have es : sv T = t * 2 ^ 149 := by rw [hT.sv, Int.mul_assoc]; rfl
  have e1 := cm60
  have e2 := c1500
  refine ⟨f.h, f.w, f.d, f.h1, f.h2, f.w1, f.w2, hT.fi.nn, hT.lt, ?_, ?_⟩
  · rw [e1, es]; omega
  · rw [e2, es]; omega
theorem fin_ok {a : Nat} (h : Fi a) : r57 a = true := by rw [fin_impl]; exact decide_eq_true h
theorem fin_ok' {a : Nat} (h : Fi a) : r101 a = true := by rw [fin_spec]; exact decide_eq_true h
theorem c60 : sv 1114636288 = 60 * 2 ^ 149 := by decide +kernel
theorem cm1000 : sv 3296329728 = -(1000 * 2 ^ 149) := by decide +kernel
theorem c1000 : sv 1148846080 = 1000 * 2 ^ 149 := by decide +kernel
theorem hot_ok {T : Nat} {t : Int} (hT : X (t * 16384) T) (t0 : -20 ≤ t) (t1 : t ≤ 489) : r48 T 3262119936 1153138688 = true := by
  have es : sv T = t * 2 ^ 149 := by rw [hT.sv, Int.mul_assoc]; rfl
  have e1 := cm60
  have e2 := c1500
  exact r48_of hT.fi.nn hT.lt (by unfold Nn; decide) (by unfold Nn; decide) (by decide) (by decide) (by rw [e1, es]; omega) (by rw [e2, es]; omega)
theorem out_ok {T : Nat} {t : Int} (hT : X (t * 16384) T) (t0 : -20 ≤ t) (t1 : t ≤ 20) : r50 T = true := by
  have es : sv T = t * 2 ^ 149 := by rw [hT.sv, Int.mul_assoc]; rfl
  have e1 := cm60
  have e2 := c60
  exact r48_of hT.fi.nn hT.lt (by unfold Nn; decide) (by unfold Nn; decide) (by decide) (by decide) (by rw [e1, es]; omega) (by rw [e2, es]; omega)
theorem out_ok' {T : Nat} {t : Int} (hT : X (t * 16384) T) (t0 : -20 ≤ t) (t1 : t ≤ 20) : r53 T = true := out_ok hT t0 t1
theorem psh_ok {T : Nat} {t : Int} (hT : X (t * 16384) T) (t0 : -4 ≤ t) (t1 : t ≤ 4) : r55 T = true := by
  have es : sv T = t * 2 ^ 149 := by rw [hT.sv, Int.mul_assoc]; rfl
  have e1 := cm1000
  have e2 := c1000
  exact r48_of hT.fi.nn hT.lt (by unfold Nn; decide) (by unfold Nn; decide) (by decide) (by decide) (by rw [e1, es]; omega) (by rw [e2, es]; omega)
theorem dense_law {T : Nat} {t : Int} (hT : X (t * 16384) T) (t0 : -20 ≤ t) (t1 : t ≤ 489) : r18 T = (r49 T, 0) := by
  unfold r18 w18
  rw [hot_ok hT t0 t1]; rfl
theorem draft_law {i j l : Nat} (hi : i < 32) (hj : j < 16) (hl : l < 9) {T O : Nat} {t o e : Int} (hT : X (t * 16384) T) (t0 : -20 ≤ t) (t1 : t ≤ 489) (hO : X (o * 16384) O) (o0 : -20 ≤ o) (o1 : o ≤ 20) :
    r19 (hD i) (wD j) T (dD l) e O = (r51 (hD i) (wD j) T (dD l) e O, 0) ∧ r20 (hD i) (wD j) T (dD l) e O = (r51 (hD i) (wD j) T (dD l) e O, 0) := by
  have f := flue_x hi hj hl hT t0 t1
  constructor
  · unfold r19 w19
    rw [f.ok46, out_ok hO o0 o1]; rfl
  · unfold r20 w20
    rw [FlueS (by have := f.h; omega) (by have := f.w; omega) (by have := f.d; omega), f.ok46, out_ok' hO o0 o1]; rfl
theorem open_d {l : Nat} (h1 : 1 ≤ l) (hl : l < 9) : feq .f32 (dD l) 0 = false ∧ fgt .f32 (dD l) 0 = true := by
  have d := dX hl
  have s := d.sv
  rw [feq_sv d.fi.nn nn0 d.lt (by decide), fgt_sv d.fi.nn nn0 d.lt (by decide), sv0, s]
  exact ⟨decide_eq_false (by omega), decide_eq_true (by omega)⟩
theorem r98_eq {q : Nat} (h : narrowOk (fsqrt .f64 (widen q)) = true) : r98 q = (0, rt q) := by
  unfold r98 w98
  rw [show r128 (widen q) = fsqrt .f64 (widen q) from rfl, h]
  rfl
/-- what is drawn, of one flue -/
structure Zs (i j l : Nat) (T O P : Nat) (e : Int) (z : Nat) : Prop where
  fi : Fi z
  lt : z < 4294967296
  up : sv z ≤ 2 ^ 157
  dn : -(2 ^ 157) ≤ sv z
  eq : z = fadd .f32 (r51 (hD i) (wD j) T (dD l) e O) P
theorem zs {i j l : Nat} (hi : i < 32) {T O P : Nat} {t o e p : Int} (hT : X (t * 16384) T) (t0 : -20 ≤ t) (t1 : t ≤ 489) (hO : X (o * 16384) O) (o0 : -20 ≤ o) (o1 : o ≤ 20) (hP : X (p * 16384) P) (p0 : -4 ≤ p) (p1 : p ≤ 4) :
    Zs i j l T O P e (fadd .f32 (r51 (hD i) (wD j) T (dD l) e O) P) ∧ sv (fadd .f32 (r51 (hD i) (wD j) T (dD l) e O) P) ≤ sv (r51 (hD i) (wD j) T (dD l) e O) + p * 2 ^ 149 + 2 ^ 135 ∧ sv (r51 (hD i) (wD j) T (dD l) e O) + p * 2 ^ 149 ≤ sv (fadd .f32 (r51 (hD i) (wD j) T (dD l) e O) P) + 2 ^ 135 := by
  have x := drf hi (W := wD j) (D := dD l) (e := e) hO hT o0 (by omega) t0 t1
  have b := x.bound hi o0 (by omega) t0 t1
  have es : sv P = p * 2 ^ 149 := by rw [hP.sv, Int.mul_assoc]; rfl
  obtain ⟨k1, k2, k3, k4⟩ := push_err x.fi hP.fi es p0 p1 b.1 b.2
  exact ⟨⟨k1, k2, by omega, by omega, rfl⟩, k3, k4⟩
theorem flow_law {i j l : Nat} (hi : i < 32) (hj : j < 16) (h1 : 1 ≤ l) (hl : l < 9) {T O P : Nat} {t o e p : Int} (hT : X (t * 16384) T) (t0 : -20 ≤ t) (t1 : t ≤ 489) (hO : X (o * 16384) O) (o0 : -20 ≤ o) (o1 : o ≤ 20) (hP : X (p * 16384) P) (p0 : -4 ≤ p) (p1 : p ≤ 4) :
    r21 (hD i) (wD j) T (dD l) e O P = (0, fl (fdiv .f32 (fadd .f32 (r51 (hD i) (wD j) T (dD l) e O) P) (r58 (hD i) (wD j) T (dD l) e)), 0) := by
  have f := flue_x hi hj hl hT t0 t1
  have z := (zs (j := j) (l := l) (e := e) hi hT t0 t1 hO o0 o1 hP p0 p1).1
  obtain ⟨r1, r2, r3, r4, _⟩ := res hi hj h1 hl (T := T) (e := e)
  obtain ⟨q1, q2, _⟩ := quot_err z.fi r1 r3 r4 z.up z.dn
  obtain ⟨f1, f2, f3, f4, _⟩ := fl_ok q1 q2
  have e56 : r56 (hD i) (wD j) T (dD l) e O P = (0, fl (fdiv .f32 (fadd .f32 (r51 (hD i) (wD j) T (dD l) e O) P) (r58 (hD i) (wD j) T (dD l) e))) := by
    unfold r56 w56
    rw [(open_d h1 hl).1]
    generalize fdiv .f32 (fadd .f32 (r51 (hD i) (wD j) T (dD l) e O) P) (r58 (hD i) (wD j) T (dD l) e) = q at *
    unfold fl
    rw [flt0 q1 q2]
    by_cases g : sv q < 0
    · rw [decide_eq_true g]
      have k := f3 g
      show cond (Nat.beq (r98 (fneg .f32 q)).1 0) (0, fneg .f32 (r98 (fneg .f32 q)).2) (1, 0) = (0, fneg .f32 (rt (fneg .f32 q)))
      rw [r98_eq k]
      rfl
    · rw [decide_eq_false g]
      have k := f4 g
      show cond (Nat.beq (r98 q).1 0) (0, (r98 q).2) (1, 0) = (0, rt q)
      rw [r98_eq k]
      rfl
  unfold r21 w21
  rw [f.ok46, out_ok hO o0 o1, psh_ok hP p0 p1, e56]
  simp only
  rw [fin_ok f1]
  rfl
theorem flow_shut {i j : Nat} (hi : i < 32) (hj : j < 16) {T O P : Nat} {t o e p : Int} (hT : X (t * 16384) T) (t0 : -20 ≤ t) (t1 : t ≤ 489) (hO : X (o * 16384) O) (o0 : -20 ≤ o) (o1 : o ≤ 20) (hP : X (p * 16384) P) (p0 : -4 ≤ p) (p1 : p ≤ 4) :
    r21 (hD i) (wD j) T 0 e O P = (0, 0, 0) ∧ r22 (hD i) (wD j) T 0 e = (0, 4) := by
  have f := flue_x hi hj (show 0 < 9 by decide) hT t0 t1
  rw [dD0] at f
  have z : feq .f32 0 0 = true := by rw [feq_sv nn0 nn0 (by decide) (by decide)]; exact decide_eq_true rfl
  constructor
  · unfold r21 w21
    have e56 : r56 (hD i) (wD j) T 0 e O P = (0, 0) := by unfold r56 w56; rw [z]; rfl
    rw [f.ok46, out_ok hO o0 o1, psh_ok hP p0 p1, e56]
    simp only
    rw [fin_ok fi0]
    rfl
  · unfold r22 w22
    rw [f.ok46, z]; rfl
theorem res_law {i j l : Nat} (hi : i < 32) (hj : j < 16) (h1 : 1 ≤ l) (hl : l < 9) {T : Nat} {t e : Int} (hT : X (t * 16384) T) (t0 : -20 ≤ t) (t1 : t ≤ 489) :
    r22 (hD i) (wD j) T (dD l) e = (r58 (hD i) (wD j) T (dD l) e, 0) ∧ r23 (hD i) (wD j) T (dD l) e = (r58 (hD i) (wD j) T (dD l) e, 0) := by
  have f := flue_x hi hj hl hT t0 t1
  obtain ⟨r1, _⟩ := res hi hj h1 hl (T := T) (e := e)
  constructor
  · unfold r22 w22
    rw [f.ok46, (open_d h1 hl).1, fin_ok r1]; rfl
  · unfold r23 w23
    rw [FlueS (by have := f.h; omega) (by have := f.w; omega) (by have := f.d; omega), f.ok46, (open_d h1 hl).1]
    show ((r59 (r60 (hD i) (wD j) T (dD l) e)).1, (r59 (r60 (hD i) (wD j) T (dD l) e)).2) = _
    have e59 : r59 (r60 (hD i) (wD j) T (dD l) e) = (r58 (hD i) (wD j) T (dD l) e, 0) := by
      unfold r59 w59
      rw [show r60 (hD i) (wD j) T (dD l) e = r58 (hD i) (wD j) T (dD l) e from rfl, fin_ok' r1]; rfl
    rw [e59]
end Go.Proofs.YtffpnkkhcgjmfaaGreatDoor

namespace Go.Proofs.YtffpnkkhcgjmfaaGreatDoor
open Go.Ab Ieee
set_option maxRecDepth 100000

theorem same89 (x : Nat) : r89 x x = true := by
  unfold r89
  cases feq .f32 x x <;> simp
theorem same90 (x : Nat) : r90 x x = true := by
  unfold r90
  cases feq .f32 x x <;> simp
theorem same14 {l : List (List Int)} (hl : l.length ≤ 1048576) : r14 l l = (0, true) := by
  have key : r44l0 (1000 + l.length + l.length) 0 l l = 1 := by
    have := all_loop (n := l.length) (p := fun _ => true) (yes := 1) (no := 0) (G := fun m i => r44l0 m i l l) (fuel := 1000 + l.length + l.length) ?_ ?_ (by omega)
    · rw [this, show allN l.length (fun _ => true) = true from allN_true.2 (fun _ _ => rfl)]; rfl
    · intro m
      show b44l0 (r44l0 m) _ _ _ = _
      unfold b44l0
      rw [dlt_f (Nat.lt_irrefl _)]; rfl
    · intro m i hi
      show b44l0 (r44l0 m) _ _ _ = _
      unfold b44l0
      simp only [same89, bne_self_eq_false]
      rw [dlt_t hi, dle0, Int.toNat_natCast, blt_t hi, wrap_succ (by omega)]
      rfl
  have e : r44 l l = (0, true) := by
    unfold r44 w44
    rw [key, bne_len]; simp [Nat.beq]
  unfold r14 w14
  rw [e]; rfl
theorem same15 {l : List (List Int)} (hl : l.length ≤ 1048576) : r15 l l = (0, true) := by
  have k45 : ∀ a b c d, r45 a b c d a b c d = true := fun a b c d => by
    unfold r45 w45
    simp only [same90]; rfl
  have key : r15l0 (1000 + l.length + l.length) ((l.length : Nat) : Int) 0 l l = 1 := by
    have := all_loop (n := l.length) (p := fun _ => true) (yes := 1) (no := 0) (G := fun m i => r15l0 m ((l.length : Nat) : Int) i l l) (fuel := 1000 + l.length + l.length) ?_ ?_ (by omega)
    · rw [this, show allN l.length (fun _ => true) = true from allN_true.2 (fun _ _ => rfl)]; rfl
    · intro m
      show b15l0 (r15l0 m) _ _ _ _ = _
      unfold b15l0
      rw [dlt_f (Nat.lt_irrefl _)]; rfl
    · intro m i hi
      show b15l0 (r15l0 m) _ _ _ _ = _
      unfold b15l0
      simp only [k45, bne_self_eq_false]
      rw [dlt_t hi, dle0, Int.toNat_natCast, blt_t hi, wrap_succ (by omega)]
      rfl
  unfold r15 w15
  rw [key, bne_len]; simp [Nat.beq]
/-- a chimney is read from its own text -/
theorem text_len {c : List (List Int)} (n6 : c.length ≤ 6) : (mkB (textC c)).size ≤ 1048576 := by
  have e : (mkB (textC c)).size = (textC c).length := by
    show (textC c).toArray.size = _
    simp
  rw [e]
  unfold textC
  rw [List.flatMap_map]
  have := lines_length (line := fun i => ln c i ++ [10]) (n := c.length) (fun i _ => by
    rw [List.length_append]
    have : (ln c i).length ≤ 100 := lnR_length _
    simp; omega)
  omega
theorem read_own {c : List (List Int)} (ok : ChOk c) : r13 c = (0, mkB (textC c)) ∧ r7 (mkB (textC c)) = (1, c) := by
  have n6 := ok.n2
  constructor
  · unfold r13 w13
    rw [ok.ok16, text_chimney ok]; rfl
  · obtain ⟨sh, hl⟩ := lines_of ok
    have vc : V c := ⟨ok.rows, by omega, ok.ok16⟩
    rcases impl_yes (text_len n6) sh with ⟨c', _, c1, c2, _, c3⟩ | ⟨_, g⟩
    · have e : c' = c := by
        apply List.ext_getElem (by omega)
        intro j hj1 hj2
        have e1 := c2 j (by omega)
        rw [hl j hj2] at e1
        have e2 := Option.some.inj e1
        rw [List.getD_eq_getElem?_getD, List.getElem?_eq_getElem hj2, List.getD_eq_getElem?_getD, List.getElem?_eq_getElem hj1] at e2
        exact e2.symm
      rw [c3, e]
    · exact absurd ⟨c, vc, rfl, hl, rfl⟩ g
theorem ab25 (a : Nat) : r25 a = ab a := rfl
theorem st5 {x0 x1 x2 x3 x6 x7 x8 x9 W : Nat} {x4 x5 : List (List Int)} {x10 : Int} (w : r21 x6 x7 x8 1065353216 x10 x0 x2 = (0, W, 0)) (hu : Nn x3) (hu2 : x3 < 4294967296) (hw : Nn W) (hw2 : W < 4294967296)
    (h : fgt .f32 x9 0 = false ∨ ((0 ≤ sv x3 → ¬ sv W < sv x3) ∧ (sv x3 ≤ 0 → ¬ sv x3 < sv W))) : st4s5 x0 x1 x2 x3 x4 x5 x6 x7 x8 x9 x10 = st4s6 x1 x2 x3 x4 x5 x6 x7 x8 x9 x10 := by
  unfold st4s5
  rw [w]
  simp only
  rcases h with h | ⟨h1, h2⟩
  · rw [h]; rfl
  · rw [fge_sv hu nn0 hu2 (by decide), fle_sv hu nn0 hu2 (by decide), flt_sv hw hu hw2 hu2, fgt_sv hw hu hw2 hu2, sv0]
    generalize st4s6 x1 x2 x3 x4 x5 x6 x7 x8 x9 x10 = S
    cases fgt .f32 x9 0 with
    | false => rfl
    | true =>
      by_cases g : 0 ≤ sv x3
      · rw [decide_eq_true g, decide_eq_false (h1 g)]
        by_cases g2 : sv x3 ≤ 0
        · rw [decide_eq_true g2, decide_eq_false (h2 g2)]; rfl
        · rw [decide_eq_false g2]; rfl
      · rw [decide_eq_false g]
        by_cases g2 : sv x3 ≤ 0
        · rw [decide_eq_true g2, decide_eq_false (h2 g2)]; rfl
        · rw [decide_eq_false g2]; rfl
set_option maxHeartbeats 2000000 in
theorem num_law {x0 x1 t : List (List Int)} {i j k l o e' p : Nat} {e : Int} (hi : i < 32) (hj : j < 16) (hk : k < 300) (hl : l < 9) (ho : o < 41) (he : e' < 200) (hp : p < 9)
    (hn : 1 ≤ t.length) (ht : t.getD 0 [] = [(hD i : Int), (wD j : Int), (tD k : Int), (dD l : Int), e])
    (q1 : r17 41 x1 = (0, (o : Int))) (q2 : r17 200 x0 = (0, (e' : Int))) (q3 : r17 9 x1 = (0, (p : Int))) : st4s2 x0 x1 t = (0, true) := by
  -- the numbers
  have hT := tX hk
  have hO : X (((o : Int) - 20) * 16384) (oI (o + 10)) := by
    have := oX (i := o + 10) (by omega)
    rw [show (((o + 10 : Nat) : Int) - 30) = (o : Int) - 20 by omega] at this; exact this
  have hE : X (((e' : Int) + 1) * 16384) (oI (e' + 31)) := by
    have := oX (i := e' + 31) (by omega)
    rw [show (((e' + 31 : Nat) : Int) - 30) = (e' : Int) + 1 by omega] at this; exact this
  have hP : X (((p : Int) - 4) * 16384) (oI (p + 26)) := by
    have := oX (i := p + 26) (by omega)
    rw [show (((p + 26 : Nat) : Int) - 30) = (p : Int) - 4 by omega] at this; exact this
  have hT' : X (((k : Int) - 10 + (e' + 1)) * 16384) (fadd .f32 (tD k) (oI (e' + 31))) := by
    have := hT.add hE (by omega) (by omega)
    rw [← Int.add_mul] at this; exact this
  have wO : ofInt .f32 (IntKind.i64.wrap ((o : Int) - 20)) = oI (o + 10) := by
    rw [wrap_i64 (by omega) (by omega)]; unfold oI; congr 1; omega
  have wE : ofInt .f32 (IntKind.i64.wrap (1 + (e' : Int))) = oI (e' + 31) := by
    rw [wrap_i64 (by omega) (by omega)]; unfold oI; congr 1; omega
  have wP : ofInt .f32 (IntKind.i64.wrap ((p : Int) - 4)) = oI (p + 26) := by
    rw [wrap_i64 (by omega) (by omega)]; unfold oI; congr 1; omega
  unfold st4s2
  simp only [q1, q2, ht, List.getD_cons_zero, List.getD_cons_succ, Int.toNat_natCast, wO, wE, blt_t (show 0 < t.length by omega)]
  generalize oI (o + 10) = O at *
  generalize oI (e' + 31) = E at *
  generalize oI (p + 26) = P at *
  generalize hTD : tD k = T at *
  generalize fadd .f32 T E = T' at *
  rw [dense_law hT (by omega) (by omega), dense_law hT' (by omega) (by omega), (draft_law hi hj hl hT (by omega) (by omega) hO (by omega) (by omega)).1, (draft_law hi hj hl hT (by omega) (by omega) hO (by omega) (by omega)).2, (draft_law hi hj hl hT' (by omega) (by omega) hO (by omega) (by omega)).1]
  have dT := den hT (by omega) (by omega)
  have dT' := den hT' (by omega) (by omega)
  have dl := den_lt dT dT' (by omega) (by omega) (by omega)
  have xd := drf hi (W := wD j) (D := dD l) (e := e) hO hT (by omega) (by omega) (by omega) (by omega)
  have yd := drf hi (W := wD j) (D := dD l) (e := e) hO hT' (by omega) (by omega) (by omega) (by omega)
  have xy := xd.more yd (by omega) (by omega) (by omega)
  rw [fge_sv dT'.fi.nn dT.fi.nn dT'.lt dT.lt, decide_eq_false (show ¬ sv (r49 T) ≤ sv (r49 T') by omega)]
  rw [feq_sv xd.fi.nn xd.fi.nn xd.lt xd.lt, decide_eq_true rfl]
  rw [fle_sv yd.fi.nn xd.fi.nn yd.lt xd.lt, decide_eq_false (show ¬ sv (r51 (hD i) (wD j) T' (dD l) e O) ≤ sv (r51 (hD i) (wD j) T (dD l) e O) by omega)]
  show st4s3 O (r51 (hD i) (wD j) T (dD l) e O) x0 x1 (hD i) (wD j) T (dD l) e T' = (0, true)
  have sT : sv T = ((k : Int) - 10) * 2 ^ 149 := by rw [hT.sv, Int.mul_assoc]; rfl
  have sO : sv O = ((o : Int) - 20) * 2 ^ 149 := by rw [hO.sv, Int.mul_assoc]; rfl
  have s4 : st4s3 O (r51 (hD i) (wD j) T (dD l) e O) x0 x1 (hD i) (wD j) T (dD l) e T' = st4s4 O (r51 (hD i) (wD j) T (dD l) e O) x0 x1 (hD i) (wD j) T (dD l) e T' := by
    unfold st4s3
    rw [fgt_sv hT.fi.nn hO.fi.nn hT.lt hO.lt, flt_sv hT.fi.nn hO.fi.nn hT.lt hO.lt, fle_sv xd.fi.nn nn0 xd.lt (by decide), fge_sv xd.fi.nn nn0 xd.lt (by decide), sv0]
    rcases Int.lt_trichotomy ((k : Int) - 10) ((o : Int) - 20) with g | g | g
    · have n := xd.neg (by omega) g (by omega)
      rw [decide_eq_false (show ¬ sv O < sv T by rw [sT, sO]; omega), decide_eq_true (show sv T < sv O by rw [sT, sO]; omega), decide_eq_false (show ¬ 0 ≤ sv (r51 (hD i) (wD j) T (dD l) e O) by omega)]
      rfl
    · rw [decide_eq_false (show ¬ sv O < sv T by rw [sT, sO]; omega), decide_eq_false (show ¬ sv T < sv O by rw [sT, sO]; omega)]
      rfl
    · have n := xd.pos (by omega) g (by omega)
      rw [decide_eq_true (show sv O < sv T by rw [sT, sO]; omega), decide_eq_false (show ¬ sv T < sv O by rw [sT, sO]; omega), decide_eq_false (show ¬ sv (r51 (hD i) (wD j) T (dD l) e O) ≤ 0 by omega)]
      rfl
  rw [s4]
  obtain ⟨zz, z1, z2⟩ := zs (j := j) (l := l) (e := e) hi hT (by omega) (by omega) hO (by omega) (by omega) hP (by omega) (by omega)
  obtain ⟨zz', z1', z2'⟩ := zs (j := j) (l := l) (e := e) hi hT' (by omega) (by omega) hO (by omega) (by omega) hP (by omega) (by omega)
  obtain ⟨sh1, sh2⟩ := flow_shut (e := e) hi hj hT (by omega) (by omega) hO (by omega) (by omega) hP (by omega) (by omega)
  have f00 : feq .f32 0 0 = true := by rw [feq_sv nn0 nn0 (by decide) (by decide)]; exact decide_eq_true rfl
  by_cases h0 : l = 0
  · subst h0
    rw [dD0] at *
    unfold st4s4
    simp only [q3, wP]
    obtain ⟨sh3, _⟩ := flow_shut (e := e) hi hj hT' (by omega) (by omega) hO (by omega) (by omega) hP (by omega) (by omega)
    have l00 : flt .f32 0 0 = false := by rw [flt_sv nn0 nn0 (by decide) (by decide)]; exact decide_eq_false (by omega)
    have g00 : fgt .f32 0 0 = false := by rw [fgt_sv nn0 nn0 (by decide) (by decide)]; exact decide_eq_false (by omega)
    rw [sh1, sh2, sh3, l00, f00]
    show st4s5 O (r51 (hD i) (wD j) T 0 e O) P 0 x0 x1 (hD i) (wD j) T 0 e = (0, true)
    have w := flow_law (l := 8) (e := e) hi hj (by decide) (by decide) hT (by omega) (by omega) hO (by omega) (by omega) hP (by omega) (by omega)
    rw [dD8] at w
    have z8 := (zs (j := j) (l := 8) (e := e) hi hT (by omega) (by omega) hO (by omega) (by omega) hP (by omega) (by omega)).1
    obtain ⟨s1, s2, s3, s4', _⟩ := res hi hj (show 1 ≤ 8 by decide) (by decide) (T := T) (e := e)
    obtain ⟨c1', c2', _⟩ := quot_err z8.fi s1 s3 s4' z8.up z8.dn
    have fw := fl_ok c1' c2'
    rw [dD8] at fw
    rw [st5 w nn0 (by decide) fw.1.nn fw.2.1 (.inl g00)]
    unfold st4s6
    rw [f00]
    rfl
  · have h1 : 1 ≤ l := by omega
    have u := flow_law (e := e) hi hj h1 hl hT (by omega) (by omega) hO (by omega) (by omega) hP (by omega) (by omega)
    have v := flow_law (e := e) hi hj h1 hl hT' (by omega) (by omega) hO (by omega) (by omega) hP (by omega) (by omega)
    have w := flow_law (l := 8) (e := e) hi hj (by decide) (by decide) hT (by omega) (by omega) hO (by omega) (by omega) hP (by omega) (by omega)
    rw [dD8] at w
    obtain ⟨r1, r2, r3, r4, _⟩ := res hi hj h1 hl (T := T) (e := e)
    obtain ⟨s1, s2, s3, s4', _⟩ := res hi hj (show 1 ≤ 8 by decide) (by decide) (T := T) (e := e)
    rw [dD8] at s1 s2 s3 s4'
    -- the same resistance for both heats; the same draft for both dampers
    have er : r58 (hD i) (wD j) T' (dD l) e = r58 (hD i) (wD j) T (dD l) e := rfl
    have ex : r51 (hD i) (wD j) T 1065353216 e O = r51 (hD i) (wD j) T (dD l) e O := rfl
    rw [er] at v
    rw [ex] at w
    have mz : sv (fadd .f32 (r51 (hD i) (wD j) T (dD l) e O) P) + 2 ^ 137 ≤ sv (fadd .f32 (r51 (hD i) (wD j) T' (dD l) e O) P) := by omega
    have more := flow_more zz.fi zz'.fi r1 r3 r4 zz.up zz.dn zz'.up zz'.dn mz
    have far := push_far (P := (p : Int) - 4) xd.fi hP.fi (by rw [hP.sv, Int.mul_assoc]; rfl) (by omega) (by omega) (xd.bound hi (by omega) (by omega) (by omega) (by omega)).1 (xd.bound hi (by omega) (by omega) (by omega) (by omega)).2 (fun _ => by
      rcases Int.lt_trichotomy ((k : Int) - 10) ((o : Int) - 20) with g | g | g
      · exact .inr (.inr (xd.neg (by omega) g (by omega)))
      · rw [← g] at hO
        exact .inl (drf_zero hi hO hT (by omega) (by omega))
      · exact .inr (.inl (xd.pos (by omega) g (by omega))))
    have ff := flow_far zz.fi r1 r3 r4 zz.up zz.dn far
    have fg := flow_far zz.fi s1 s3 s4' zz.up zz.dn far
    have near := near_sv zz.fi r1 r3 r4 zz.up zz.dn
    have nl := near_law near.1 zz.fi zz.lt zz.up zz.dn near.2.2.1 near.2.2.2
    obtain ⟨a1, a2, a3, a4, _⟩ := quot_err zz.fi r1 r3 r4 zz.up zz.dn
    obtain ⟨b1, b2, _⟩ := quot_err zz'.fi r1 r3 r4 zz'.up zz'.dn
    obtain ⟨c1', c2', _⟩ := quot_err zz.fi s1 s3 s4' zz.up zz.dn
    have fu := fl_ok a1 a2
    have fv := fl_ok b1 b2
    have fw := fl_ok c1' c2'
    have rl := res_law (e := e) hi hj h1 hl hT (by omega) (by omega)
    have op := open_d h1 hl
    have wide : (0 ≤ sv (fadd .f32 (r51 (hD i) (wD j) T (dD l) e O) P) → sv (fl (fdiv .f32 (fadd .f32 (r51 (hD i) (wD j) T (dD l) e O) P) (r58 (hD i) (wD j) T (dD l) e))) ≤ sv (fl (fdiv .f32 (fadd .f32 (r51 (hD i) (wD j) T (dD l) e O) P) (r58 (hD i) (wD j) T 1065353216 e)))) ∧
        (sv (fadd .f32 (r51 (hD i) (wD j) T (dD l) e O) P) ≤ 0 → sv (fl (fdiv .f32 (fadd .f32 (r51 (hD i) (wD j) T (dD l) e O) P) (r58 (hD i) (wD j) T 1065353216 e))) ≤ sv (fl (fdiv .f32 (fadd .f32 (r51 (hD i) (wD j) T (dD l) e O) P) (r58 (hD i) (wD j) T (dD l) e)))) := by
      by_cases h8 : l = 8
      · subst h8
        rw [dD8]
        exact ⟨fun _ => Int.le_refl _, fun _ => Int.le_refl _⟩
      · have less := res_less hi hj h1 (show l < 8 by omega) (T := T) (e := e)
        rw [dD8] at less
        exact flow_wide zz.fi r1 s1 r3 r4 s3 s4' zz.up zz.dn far less
    unfold st4s4
    simp only [q3, wP]
    rw [u, v, sh1, sh2, f00]
    generalize hZ : fadd .f32 (r51 (hD i) (wD j) T (dD l) e O) P = z at *
    generalize hU : fl (fdiv .f32 z (r58 (hD i) (wD j) T (dD l) e)) = U at *
    generalize hV : fl (fdiv .f32 (fadd .f32 (r51 (hD i) (wD j) T' (dD l) e O) P) (r58 (hD i) (wD j) T (dD l) e)) = V at *
    generalize hW : fl (fdiv .f32 z (r58 (hD i) (wD j) T 1065353216 e)) = W at *
    simp only
    rw [flt_sv fv.1.nn fu.1.nn fv.2.1 fu.2.1, decide_eq_false (show ¬ sv V < sv U by omega)]
    show st4s5 O (r51 (hD i) (wD j) T (dD l) e O) P U x0 x1 (hD i) (wD j) T (dD l) e = (0, true)
    have s6 : st4s5 O (r51 (hD i) (wD j) T (dD l) e O) P U x0 x1 (hD i) (wD j) T (dD l) e = st4s6 (r51 (hD i) (wD j) T (dD l) e O) P U x0 x1 (hD i) (wD j) T (dD l) e := by
      refine st5 w fu.1.nn fu.2.1 fw.1.nn fw.2.1 (.inr ?_)
      clear s4 sh1 sh2 u v w rl op nl near more mz dT dT' dl xd yd xy z1 z2 z1' z2' a3 a4 fv
      rcases far with g | g | g
      · have := ff.2.2 g
        have := fg.2.2 g
        omega
      · have := ff.1 (by omega)
        have := wide.1 (by omega)
        omega
      · have := ff.2.1 (by omega)
        have := wide.2 (by omega)
        omega
    rw [s6]
    unfold st4s6
    rw [op.1]
    show st4s7 (r51 (hD i) (wD j) T (dD l) e O) P U x0 x1 (hD i) (wD j) T (dD l) e = _
    unfold st4s7
    rw [rl.1, rl.2]
    simp only
    rw [feq_sv r1.nn r1.nn r2 r2, decide_eq_true rfl]
    simp only [ab25]
    show (0, r24 _ _ _) = _
    rw [hZ]
    have e24 : r24 (fmul .f32 (fmul .f32 U (ab U)) (r58 (hD i) (wD j) T (dD l) e)) z (fadd .f32 (fmul .f32 981668463 (ab z)) 981668463) = true := nl
    rw [e24]
theorem plain4 (x0 x1 : List (List Int)) (k0 : RowsOk SU x0) (_ : x0.length ≤ 9223372036854775807) (k1 : RowsOk SU x1) (_ : x1.length ≤ 9223372036854775807) : r4 x0 x1 = (0, true) := by
  unfold r4 r11 w11
  by_cases h0 : x0.length ≤ 4096
  · by_cases h1 : x1.length ≤ 4096
    · rw [decide_eq_false (show ¬ ((((x0.length : Nat) : Int) : Int) > 4096) by omega), decide_eq_false (show ¬ ((((x1.length : Nat) : Int) : Int) > 4096) by omega)]
      obtain ⟨t, e12, hd⟩ := draw_ok k0 h0
      have hc := hd.ch
      have n1 := hd.n1
      have n2 := hd.n2
      obtain ⟨e13, e7⟩ := read_own hc
      obtain ⟨o, eo, ho⟩ := pick14 k1 h1 (n := 41) (by omega)
      obtain ⟨e', ee, he⟩ := pick14 k0 h0 (n := 200) (by omega)
      obtain ⟨p, ep, hp⟩ := pick14 k1 h1 (n := 9) (by omega)
      obtain ⟨tr, htr, hq⟩ := hd.ex
      obtain ⟨i, j, k, l, e, g1, g2, g3, g4, g5, _⟩ := hq 0 (by omega)
      have key := num_law g1 g2 g3 g4 (show o < 41 by omega) (show e' < 200 by omega) (show p < 9 by omega) n1 g5 eo ee ep
      show st4s1 x0 x1 = (0, true)
      unfold st4s1
      simp only [e12, e13, e7, same14 (show t.length ≤ 1048576 by omega), same15 (show t.length ≤ 1048576 by omega), hc.ok16, key]
      rfl
    · rw [decide_eq_true (show (((x1.length : Nat) : Int) : Int) > 4096 by omega)]
      cases decide ((((x0.length : Nat) : Int) : Int) > 4096) <;> rfl
  · rw [decide_eq_true (show (((x0.length : Nat) : Int) : Int) > 4096 by omega)]
    rfl
end Go.Proofs.YtffpnkkhcgjmfaaGreatDoor
