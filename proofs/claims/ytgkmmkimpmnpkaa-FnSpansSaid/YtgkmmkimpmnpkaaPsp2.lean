/- What FnSpans draws from its bytes. -/
import Derived.Test.YtgkmmkimpmnpkaaSq4
import Derived.Test.YtgkmmkimpmnpkaaPsp1
import Derived.Test.YtgkmmkimpmnpkaaA25
namespace Go.Proofs.Ytgkmmkimpmnpkaa
open Go.Ab
abbrev SU : List CT := [.int .u8]
theorem byte_ok {c : List (List Int)} (h : RowsOk SU c) {i : Nat} (hi : i < c.length) : 0 ≤ (c.getD i []).getD 0 0 ∧ (c.getD i []).getD 0 0 ≤ 255 := by
  have := (h.get hi).get (j := 0) (t := .int .u8) rfl
  exact this
theorem and255 (x : Int) : 0 ≤ bits .and .u64 x 255 ∧ bits .and .u64 x 255 ≤ 255 := by
  have e : bits .and .u64 x 255 = IntKind.u64.wrap (((BitVec.ofInt 64 x &&& BitVec.ofInt 64 255).toNat : Nat) : Int) := rfl
  have h : (BitVec.ofInt 64 x &&& BitVec.ofInt 64 255).toNat ≤ 255 := by
    rw [BitVec.toNat_and]
    exact Nat.and_le_right
  generalize (BitVec.ofInt 64 x &&& BitVec.ofInt 64 255).toNat = n at *
  have w : IntKind.u64.wrap (n : Int) = (n : Int) := by
    have e2 : IntKind.u64.wrap (n : Int) = (n : Int) % 18446744073709551616 := by
      unfold IntKind.wrap
      rw [show IntKind.u64.bits = 64 from rfl, show IntKind.u64.signed = false from rfl]
      rfl
    rw [e2]; omega
  rw [e, w]
  omega
/-- the next number from 0 to 255 -/
theorem next_ok {c : List (List Int)} (h : RowsOk SU c) (hl : c.length ≤ 1048576) {a : Nat} (ha : a ≤ 1048576) (s : Int) : ∃ v s', r47 (a : Int) s c = (0, v, ((a + 1 : Nat) : Int), s') ∧ 0 ≤ v ∧ v ≤ 255 := by
  unfold r47
  rw [wrap_succ (by omega), Int.toNat_natCast]
  by_cases h1 : a < c.length
  · have hb := byte_ok h h1
    have wb : IntKind.i64.wrap ((c.getD a []).getD 0 0) = (c.getD a []).getD 0 0 := wrap_i64 (by omega) (by omega)
    rw [dlt_t h1, dle0, blt_t h1, decide_eq_true (show ((a + 1 : Nat) : Int) ≤ (c.length : Int) by omega)]
    exact ⟨_, _, rfl, by show 0 ≤ IntKind.i64.wrap ((c.getD a []).getD 0 0); rw [wb]; exact hb.1, by show IntKind.i64.wrap ((c.getD a []).getD 0 0) ≤ 255; rw [wb]; exact hb.2⟩
  · rw [dlt_f h1, decide_eq_false (show ¬ ((a + 1 : Nat) : Int) ≤ (c.length : Int) by omega)]
    refine ⟨_, _, rfl, ?_, ?_⟩
    · have g := and255 (Int.fdiv (IntKind.u64.wrap ((IntKind.u64.wrap ((IntKind.u64.wrap (s * 6364136223846793005)) + 0)) + 1442695040888963407)) (2 ^ (min (40 : Int).toNat (IntKind.bits .u64))))
      rw [wrap_i64 (by omega) (by omega)]; exact g.1
    · have g := and255 (Int.fdiv (IntKind.u64.wrap ((IntKind.u64.wrap ((IntKind.u64.wrap (s * 6364136223846793005)) + 0)) + 1442695040888963407)) (2 ^ (min (40 : Int).toNat (IntKind.bits .u64))))
      rw [wrap_i64 (by omega) (by omega)]; exact g.2
theorem r30_ok {c : List (List Int)} (h : RowsOk SU c) (hl : c.length ≤ 1048576) {a : Nat} (ha : a ≤ 1048576) (s : Int) : ∃ p s', r30 (a : Int) s c = (0, p, ((a + 1 : Nat) : Int), s') ∧ 0 ≤ p ∧ p < 16 := by
  obtain ⟨v, s1, e, v0, v1⟩ := next_ok h hl ha s
  unfold r30; rw [e]
  refine ⟨Int.tmod v 16, s1, rfl, ?_, ?_⟩
  · rw [Int.tmod_eq_emod_of_nonneg v0]; exact Int.emod_nonneg _ (by decide)
  · rw [Int.tmod_eq_emod_of_nonneg v0]; exact Int.emod_lt_of_pos _ (by decide)
theorem r30d_ok {c : List (List Int)} (h : RowsOk SU c) (hl : c.length ≤ 1048576) {a : Nat} (ha : a ≤ 1048576) (s : Int) : ∃ p s', r30d (a : Int) s c = (0, p, ((a + 1 : Nat) : Int), s') ∧ 0 ≤ p ∧ p < 4 := by
  obtain ⟨v, s1, e, v0, v1⟩ := next_ok h hl ha s
  unfold r30d; rw [e]
  refine ⟨Int.tmod v 4, s1, rfl, ?_, ?_⟩
  · rw [Int.tmod_eq_emod_of_nonneg v0]; exact Int.emod_nonneg _ (by decide)
  · rw [Int.tmod_eq_emod_of_nonneg v0]; exact Int.emod_lt_of_pos _ (by decide)
theorem r30f_ok {c : List (List Int)} (h : RowsOk SU c) (hl : c.length ≤ 1048576) {a : Nat} (ha : a ≤ 1048576) (s : Int) : ∃ p s', r30f (a : Int) s c = (0, p, ((a + 1 : Nat) : Int), s') ∧ 0 ≤ p ∧ p < 33 := by
  obtain ⟨v, s1, e, v0, v1⟩ := next_ok h hl ha s
  unfold r30f; rw [e]
  refine ⟨Int.tmod v 33, s1, rfl, ?_, ?_⟩
  · rw [Int.tmod_eq_emod_of_nonneg v0]; exact Int.emod_nonneg _ (by decide)
  · rw [Int.tmod_eq_emod_of_nonneg v0]; exact Int.emod_lt_of_pos _ (by decide)
theorem r30g_ok {c : List (List Int)} (h : RowsOk SU c) (hl : c.length ≤ 1048576) {a : Nat} (ha : a ≤ 1048576) (s : Int) : ∃ p s', r30g (a : Int) s c = (0, p, ((a + 1 : Nat) : Int), s') ∧ 0 ≤ p ∧ p < 65 := by
  obtain ⟨v, s1, e, v0, v1⟩ := next_ok h hl ha s
  unfold r30g; rw [e]
  refine ⟨Int.tmod v 65, s1, rfl, ?_, ?_⟩
  · rw [Int.tmod_eq_emod_of_nonneg v0]; exact Int.emod_nonneg _ (by decide)
  · rw [Int.tmod_eq_emod_of_nonneg v0]; exact Int.emod_lt_of_pos _ (by decide)
theorem r30b_ok {c : List (List Int)} (h : RowsOk SU c) (hl : c.length ≤ 1048576) {a : Nat} (ha : a + 1 ≤ 1048576) (s : Int) : ∃ p s', r30b (a : Int) s c = (0, p, ((a + 2 : Nat) : Int), s') := by
  obtain ⟨v, s1, e, v0, v1⟩ := next_ok h hl (a := a) (by omega) s
  obtain ⟨w, s2, e2, w0, w1⟩ := next_ok h hl (a := a + 1) (by omega) s1
  unfold r30b; simp only [e, e2]
  exact ⟨_, _, rfl⟩
theorem r30c_ok {c : List (List Int)} (h : RowsOk SU c) (hl : c.length ≤ 1048576) {a : Nat} (ha : a + 1 ≤ 1048576) (s : Int) : ∃ p s', r30c (a : Int) s c = (0, p, ((a + 2 : Nat) : Int), s') := by
  obtain ⟨v, s1, e, v0, v1⟩ := next_ok h hl (a := a) (by omega) s
  obtain ⟨w, s2, e2, w0, w1⟩ := next_ok h hl (a := a + 1) (by omega) s1
  unfold r30c; simp only [e, e2]
  exact ⟨_, _, rfl⟩
theorem r30e_ok {c : List (List Int)} (h : RowsOk SU c) (hl : c.length ≤ 1048576) {a : Nat} (ha : a + 1 ≤ 1048576) (s : Int) : ∃ p s', r30e (a : Int) s c = (0, p, ((a + 2 : Nat) : Int), s') := by
  obtain ⟨v, s1, e, v0, v1⟩ := next_ok h hl (a := a) (by omega) s
  obtain ⟨w, s2, e2, w0, w1⟩ := next_ok h hl (a := a + 1) (by omega) s1
  unfold r30e; simp only [e, e2]
  exact ⟨_, _, rfl⟩
theorem r45_ok {c : List (List Int)} (h : RowsOk SU c) (hl : c.length ≤ 1048576) {a : Nat} (ha : a ≤ 1048576) (s : Int) : ∃ p b s', r45 (a : Int) s c = (0, p, b, s') ∧ p < 4294967296 := by
  obtain ⟨p, s1, e, v0, v1⟩ := r30f_ok h hl ha s
  unfold r45; rw [e]
  exact ⟨_, _, _, rfl, fdiv_lt _ _⟩
theorem cnd {α : Type} (Q : α → Prop) (b : Bool) {x y : α} (hx : Q x) (hy : Q y) : Q (cond b x y) := by
  cases b
  · exact hy
  · exact hx
theorem inf_ok : narrowOk (r44 1) = true ∧ narrowOk (r44 (-1)) = true ∧ narrow (r44 1) < 4294967296 ∧ narrow (r44 (-1)) < 4294967296 := by decide +kernel
theorem u32_lt (x : Int) : (IntKind.u32.wrap x).toNat < 4294967296 := by
  have e2 : IntKind.u32.wrap x = x % 4294967296 := by
    unfold IntKind.wrap
    rw [show IntKind.u32.bits = 32 from rfl, show IntKind.u32.signed = false from rfl]
    rfl
  rw [e2]
  have := Int.emod_nonneg x (show (4294967296 : Int) ≠ 0 by decide)
  have := Int.emod_lt_of_pos x (show (0 : Int) < 4294967296 by decide)
  omega
def AnyQ (t : Nat × Nat × Int × Int) : Prop := ∃ v b s, t = (0, v, b, s) ∧ v < 4294967296
theorem any_draw {c : List (List Int)} (h : RowsOk SU c) (hl : c.length ≤ 4096) : AnyQ (r23 0 0 c) := by
  obtain ⟨p, s1, e1, p0, p1⟩ := r30_ok h (by omega) (a := 0) (by omega) 0
  have e1' : r30 0 0 c = (0, p, 1, s1) := e1
  obtain ⟨pb, sb, eb⟩ := r30b_ok h (by omega) (a := 1) (by omega) s1
  obtain ⟨pc, sc, ec⟩ := r30c_ok h (by omega) (a := 1) (by omega) s1
  obtain ⟨pd, sd, ed, _, _⟩ := r30d_ok h (by omega) (a := 3) (by omega) sc
  obtain ⟨pe, se, ee⟩ := r30e_ok h (by omega) (a := 1) (by omega) s1
  obtain ⟨pf, bf, sf, ef, lf⟩ := r45_ok h (by omega) (a := 1) (by omega) s1
  have eb' : r30b 1 s1 c = (0, pb, 3, sb) := eb
  have ec' : r30c 1 s1 c = (0, pc, 3, sc) := ec
  have ed' : r30d 3 sc c = (0, pd, 4, sd) := ed
  have ee' : r30e 1 s1 c = (0, pe, 3, se) := ee
  have ef' : r45 1 s1 c = (0, pf, bf, sf) := ef
  obtain ⟨n1, n2, n3, n4⟩ := inf_ok
  unfold r23
  simp only [e1', eb', ec', ed', ee', ef', n1, n2, show Nat.beq 0 0 = true from rfl, cond_true]
  refine cnd AnyQ _ ⟨_, _, _, rfl, by decide⟩ (cnd AnyQ _ ⟨_, _, _, rfl, n3⟩ (cnd AnyQ _ ⟨_, _, _, rfl, n4⟩ (cnd AnyQ _ ⟨_, _, _, rfl, by decide⟩ (cnd AnyQ _ ⟨_, _, _, rfl, u32_lt _⟩ (cnd AnyQ _ ⟨_, _, _, rfl, u32_lt _⟩ (cnd AnyQ _ ⟨_, _, _, rfl, fdiv_lt _ _⟩ (cnd AnyQ _ ⟨_, _, _, rfl, fneg_lt _ lf⟩ (cnd AnyQ _ ⟨_, _, _, rfl, fmul_lt _ _⟩ ⟨_, _, _, rfl, lf⟩))))))))
theorem r5_ok {c : List (List Int)} (h : RowsOk SU c) (hl : c.length ≤ 4096) : ∃ a, r5 c = (0, a) ∧ a < 4294967296 := by
  obtain ⟨v, b, s, e, g⟩ := any_draw h hl
  have e' : r23 (r24 c).1 (r24 c).2 c = (0, v, b, s) := e
  unfold r5; rw [e']
  exact ⟨v, rfl, g⟩
/-- one test for 'X' -/
def Xb (n : Int) (a : Nat) : Bool := decide (a % 2147483648 < 2139095040) && (decide (a < 4294967296) && decide (sv a = n * 2 ^ 135))
theorem Xb.x {n : Int} {a : Nat} (h : Xb n a = true) : X n a := by
  unfold Xb at h
  simp only [Bool.and_eq_true, decide_eq_true_eq] at h
  exact ⟨h.1, h.2.1, h.2.2⟩
theorem tabLow : ∀ k, k < 65 → Xb (((k : Nat) : Int) * 4096 - 131072) (fdiv .f32 (ofInt .f32 (((k : Nat) : Int) - 32)) 1082130432) = true := by decide +kernel
theorem tabWide : ∀ k, k < 33 → Xb (((k : Nat) : Int) * 2048) (fdiv .f32 (ofInt .f32 ((k : Nat) : Int)) 1090519040) = true := by decide +kernel
theorem tabQ : ∀ k, k < 17 → Xb (((k : Nat) : Int) * 1024) (fdiv .f32 (ofInt .f32 ((k : Nat) : Int)) 1098907648) = true := by decide +kernel
/-- a drawn span: ends of a few quarters -/
theorem span_ok {c : List (List Int)} (h : RowsOk SU c) (hl : c.length ≤ 4096) : ∃ k j low high, k < 65 ∧ j < 33 ∧ r11 c = (0, low, high) ∧ X (((k : Nat) : Int) * 4096 - 131072) low ∧ X (((k : Nat) : Int) * 4096 - 131072 + ((j : Nat) : Int) * 2048) high := by
  obtain ⟨p, s1, e1, p0, p1⟩ := r30g_ok h (by omega) (a := 0) (by omega) 0
  obtain ⟨q, s2, e2, q0, q1⟩ := r30f_ok h (by omega) (a := 1) (by omega) s1
  have e1' : r30g (r24 c).1 (r24 c).2 c = (0, p, 1, s1) := e1
  have e2' : r30f 1 s1 c = (0, q, 2, s2) := e2
  obtain ⟨k, rfl⟩ := Int.eq_ofNat_of_zero_le p0
  obtain ⟨j, rfl⟩ := Int.eq_ofNat_of_zero_le q0
  have x1 := Xb.x (tabLow k (by omega))
  have x2 := Xb.x (tabWide j (by omega))
  refine ⟨k, j, _, _, by omega, by omega, ?_, x1, x1.add x2 (by omega) (by omega)⟩
  unfold r11
  simp only [e1', e2']
  rw [wrap_i64 (by omega) (by omega)]
  rfl
theorem at_ok {c : List (List Int)} (h : RowsOk SU c) : ∃ q : Nat, q < 17 ∧ r12 0 17 c = (0, (q : Int)) := by
  unfold r12
  by_cases h1 : 0 < c.length
  · have hb := byte_ok h h1
    have wb : IntKind.i64.wrap ((c.getD 0 []).getD 0 0) = (c.getD 0 []).getD 0 0 := wrap_i64 (by omega) (by omega)
    have e1 : decide ((0 : Int) ≥ ((c.length : Nat) : Int)) = false := decide_eq_false (by omega)
    have e2 : Nat.blt (Int.toNat 0) c.length = true := blt_t h1
    have e3 : Int.toNat 0 = 0 := rfl
    rw [e1, e2, e3, wb]
    have g0 := Int.emod_nonneg ((c.getD 0 []).getD 0 0) (show (17 : Int) ≠ 0 by decide)
    have g1 := Int.emod_lt_of_pos ((c.getD 0 []).getD 0 0) (show (0 : Int) < 17 by decide)
    refine ⟨((c.getD 0 []).getD 0 0 % 17).toNat, by omega, ?_⟩
    rw [Int.toNat_of_nonneg g0, Int.tmod_eq_emod_of_nonneg hb.1]
    rfl
  · have e1 : decide ((0 : Int) ≥ ((c.length : Nat) : Int)) = true := decide_eq_true (by omega)
    rw [e1]
    exact ⟨0, by decide, rfl⟩
end Go.Proofs.Ytgkmmkimpmnpkaa
