/- What is drawn from bytes. -/
import Derived.Test.YtdpkbkmmlbmllaaPcd6
import Derived.Test.YtdpkbkmmlbmllaaCe6
namespace Go.Proofs.Ytdpkbkmmlbmllaa
open Go.Ab Ieee

abbrev SU : List CT := [.int .u8]
theorem byte_ok {c : List (List Int)} (h : RowsOk SU c) {i : Nat} (hi : i < c.length) : 0 ≤ ic c i 0 ∧ ic c i 0 ≤ 255 := by
  have := (h.get hi).get (j := 0) (t := .int .u8) rfl
  exact this
theorem and255 (x : Int) : 0 ≤ bits .and .u64 x 255 ∧ bits .and .u64 x 255 ≤ 255 := by
  have e : bits .and .u64 x 255 = IntKind.u64.wrap (((BitVec.ofInt 64 x &&& BitVec.ofInt 64 255).toNat : Nat) : Int) := rfl
  have h : (BitVec.ofInt 64 x &&& BitVec.ofInt 64 255).toNat ≤ 255 := by
    rw [BitVec.toNat_and]
    exact Nat.and_le_right
  generalize (BitVec.ofInt 64 x &&& BitVec.ofInt 64 255).toNat = n at *
  have w : IntKind.u64.wrap (n : Int) = (n : Int) := by
    have e2 : IntKind.u64.wrap (n : Int) = (n : Int) % 18446744073709551616 := by
      unfold IntKind.wrap
      rw [show IntKind.u64.bits = 64 from rfl, show IntKind.u64.signed = false from rfl]
      rfl
    rw [e2]; omega
  rw [e, w]
  omega
/-- the next number from 0 to 255 -/
theorem next_ok {c : List (List Int)} (h : RowsOk SU c) (hl : c.length ≤ 1048576) {a : Nat} (ha : a ≤ 1048576) (s : Int) : ∃ v s', r90 (a : Int) s c = (0, v, ((a + 1 : Nat) : Int), s') ∧ 0 ≤ v ∧ v ≤ 255 := by
  unfold r90
  rw [wrap_succ (by omega), Int.toNat_natCast]
  by_cases h1 : a < c.length
  · have hb := byte_ok h h1
    have wb : IntKind.i64.wrap (ic c a 0) = ic c a 0 := wrap_i64 (by omega) (by omega)
    rw [dlt_t h1, dle0, blt_t h1, decide_eq_true (show ((a + 1 : Nat) : Int) ≤ (c.length : Int) by omega)]
    exact ⟨_, _, rfl, by show 0 ≤ IntKind.i64.wrap (ic c a 0); rw [wb]; exact hb.1, by show IntKind.i64.wrap (ic c a 0) ≤ 255; rw [wb]; exact hb.2⟩
  · rw [dlt_f h1, decide_eq_false (show ¬ ((a + 1 : Nat) : Int) ≤ (c.length : Int) by omega)]
    refine ⟨_, _, rfl, ?_, ?_⟩
    · have g := and255 (Int.fdiv (IntKind.u64.wrap ((IntKind.u64.wrap ((IntKind.u64.wrap (s * 6364136223846793005)) + 0)) + 1442695040888963407)) (2 ^ (min (40 : Int).toNat (IntKind.bits .u64))))
      rw [wrap_i64 (by omega) (by omega)]; exact g.1
    · have g := and255 (Int.fdiv (IntKind.u64.wrap ((IntKind.u64.wrap ((IntKind.u64.wrap (s * 6364136223846793005)) + 0)) + 1442695040888963407)) (2 ^ (min (40 : Int).toNat (IntKind.bits .u64))))
      rw [wrap_i64 (by omega) (by omega)]; exact g.2
/-- a number from 0 to n - 1 -/
theorem pick_ok {c : List (List Int)} (h : RowsOk SU c) (hl : c.length ≤ 1048576) {n a : Nat} (ha : a + 2 ≤ 1048576) (hn : n ≤ 1000) (s : Int) : ∃ (p b : Nat) (s' : Int), r53 (n : Int) (a : Int) s c = (0, (p : Int), (b : Int), s') ∧ (p < n ∨ p = 0) ∧ a ≤ b ∧ b ≤ a + 2 := by
  unfold r53
  by_cases h1 : n ≤ 1
  · rw [decide_eq_true (show (n : Int) ≤ 1 by omega)]
    exact ⟨0, a, s, rfl, .inr rfl, Nat.le_refl _, by omega⟩
  · rw [decide_eq_false (show ¬ (n : Int) ≤ 1 by omega)]
    obtain ⟨v, s1, e1, v0, v1⟩ := next_ok h hl (a := a) (by omega) s
    obtain ⟨w, s2, e2, w0, w1⟩ := next_ok h hl (a := a + 1) (by omega) s1
    simp only [e1, e2]
    rw [decide_eq_false (show ¬ (n : Int) = 0 by omega)]
    by_cases h2 : n > 200
    · rw [decide_eq_true (show (n : Int) > 200 by omega), wrap_i64 (show -9223372036854775808 ≤ v * 256 by omega) (by omega), wrap_i64 (by omega) (by omega), Int.tmod_eq_emod_of_nonneg (by omega)]
      have g0 := Int.emod_nonneg (v * 256 + w) (show (n : Int) ≠ 0 by omega)
      have g1 := Int.emod_lt_of_pos (v * 256 + w) (show 0 < (n : Int) by omega)
      refine ⟨((v * 256 + w) % n).toNat, a + 1 + 1, s2, ?_, by omega, by omega, by omega⟩
      rw [Int.toNat_of_nonneg g0]; rfl
    · rw [decide_eq_false (show ¬ (n : Int) > 200 by omega), Int.tmod_eq_emod_of_nonneg v0]
      have g0 := Int.emod_nonneg v (show (n : Int) ≠ 0 by omega)
      have g1 := Int.emod_lt_of_pos v (show 0 < (n : Int) by omega)
      refine ⟨(v % n).toNat, a + 1, s1, ?_, by omega, by omega, by omega⟩
      rw [Int.toNat_of_nonneg g0]; rfl
/-! ### flues that are drawn -/
noncomputable def hD (i : Nat) : Nat := fdiv .f32 (ofInt .f32 ((1 + i : Nat) : Int)) 1082130432
noncomputable def wD (i : Nat) : Nat := fdiv .f32 (ofInt .f32 ((1 + i : Nat) : Int)) 1098907648
noncomputable def tD (i : Nat) : Nat := ofInt .f32 ((i : Int) - 10)
noncomputable def dD (i : Nat) : Nat := fdiv .f32 (ofInt .f32 ((i : Nat) : Int)) 1090519040
theorem hD_all : ∀ i : Fin 32, fdiv .f32 (ofInt .f32 ((1 + i.val : Nat) : Int)) 1082130432 < 2139095040 ∧ sv 1031798784 ≤ sv (fdiv .f32 (ofInt .f32 ((1 + i.val : Nat) : Int)) 1082130432) ∧ sv (fdiv .f32 (ofInt .f32 ((1 + i.val : Nat) : Int)) 1082130432) ≤ sv 1090519040 := by decide +kernel
theorem wD_all : ∀ i : Fin 16, fdiv .f32 (ofInt .f32 ((1 + i.val : Nat) : Int)) 1098907648 < 2139095040 ∧ sv 1015021568 ≤ sv (fdiv .f32 (ofInt .f32 ((1 + i.val : Nat) : Int)) 1098907648) ∧ sv (fdiv .f32 (ofInt .f32 ((1 + i.val : Nat) : Int)) 1098907648) ≤ sv 1065353216 := by decide +kernel
theorem tD_all : ∀ i : Fin 300, ofInt .f32 ((i.val : Int) - 10) % 2147483648 < 2139095040 ∧ ofInt .f32 ((i.val : Int) - 10) < 4294967296 ∧ sv (ofInt .f32 ((i.val : Int) - 10)) = ((i.val : Int) - 10) * 2 ^ 149 := by decide +kernel
theorem dD_all : ∀ i : Fin 9, fdiv .f32 (ofInt .f32 ((i.val : Nat) : Int)) 1090519040 ≤ 1065353216 := by decide +kernel
/-- what is drawn is valid -/
theorem flue_drawn {i j k l : Nat} (hi : i < 32) (hj : j < 16) (hk : k < 300) (hl : l < 9) : FlueOk (hD i) (wD j) (tD k) (dD l) := by
  have a := hD_all ⟨i, hi⟩
  have b := wD_all ⟨j, hj⟩
  have c := tD_all ⟨k, hk⟩
  have d := dD_all ⟨l, hl⟩
  have e1 := c2
  have e2 := c30
  have e3 := c4
  have e4 := c1
  have e5 := c8
  have e6 := cm60
  have e7 := c1500
  refine ⟨a.1, b.1, d, a.2.1, ?_, b.2.1, ?_, ?_, c.2.1, ?_, ?_⟩
  · have := a.2.2
    show sv (fdiv .f32 (ofInt .f32 ((1 + i : Nat) : Int)) 1082130432) ≤ _
    simp only at this
    omega
  · have := b.2.2
    show sv (fdiv .f32 (ofInt .f32 ((1 + j : Nat) : Int)) 1098907648) ≤ _
    simp only at this
    omega
  · unfold Nn tD; exact Nat.le_of_lt c.1
  · have := c.2.2
    show _ ≤ sv (ofInt .f32 ((k : Int) - 10))
    simp only at this
    omega
  · have := c.2.2
    show sv (ofInt .f32 ((k : Int) - 10)) ≤ _
    simp only at this
    omega
/-- a flue that was drawn -/
structure DrF (r : List Int) (into : Int) : Prop where
  ex : ∃ i j k l : Nat, i < 32 ∧ j < 16 ∧ k < 300 ∧ l < 9 ∧ r = [(hD i : Int), (wD j : Int), (tD k : Int), (dD l : Int), into]
theorem draw_flue {c : List (List Int)} (h : RowsOk SU c) (hl : c.length ≤ 1048576) {a : Nat} (ha : a + 20 ≤ 1048576) (s : Int) : ∃ i j k l b : Nat, ∃ s' : Int, r88 (a : Int) s c = (0, hD i, wD j, tD k, dD l, -1, (b : Int), s') ∧ i < 32 ∧ j < 16 ∧ k < 300 ∧ l < 9 ∧ a ≤ b ∧ b ≤ a + 8 := by
  obtain ⟨p1, a1, s1, e1, h1, l1, u1⟩ := pick_ok h hl (n := 32) (a := a) (by omega) (by decide) s
  obtain ⟨p2, a2, s2, e2, h2, l2, u2⟩ := pick_ok h hl (n := 16) (a := a1) (by omega) (by decide) s1
  obtain ⟨p3, a3, s3, e3, h3, l3, u3⟩ := pick_ok h hl (n := 300) (a := a2) (by omega) (by decide) s2
  obtain ⟨p4, a4, s4, e4, h4, l4, u4⟩ := pick_ok h hl (n := 9) (a := a3) (by omega) (by decide) s3
  have e1' : r53 32 (a : Int) s c = _ := e1
  have e2' : r53 16 (a1 : Int) s1 c = _ := e2
  have e3' : r53 300 (a2 : Int) s2 c = _ := e3
  have e4' : r53 9 (a3 : Int) s3 c = _ := e4
  refine ⟨p1, p2, p3, p4, a4, s4, ?_, by omega, by omega, by omega, by omega, by omega, by omega⟩
  unfold r88
  simp only [e1', e2', e3', e4']
  rw [wrap_i64 (show -9223372036854775808 ≤ 1 + (p1 : Int) by omega) (by omega), wrap_i64 (show -9223372036854775808 ≤ 1 + (p2 : Int) by omega) (by omega), wrap_i64 (show -9223372036854775808 ≤ (p3 : Int) - 10 by omega) (by omega)]
  unfold hD wD tD dD
  rw [Int.natCast_add, Int.natCast_add]
  rfl
end Go.Proofs.Ytdpkbkmmlbmllaa
