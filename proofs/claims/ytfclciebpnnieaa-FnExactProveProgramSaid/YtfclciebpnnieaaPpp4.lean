/- The plain law of ProveProgram. -/
import Derived.Test.YtfclciebpnnieaaPpp3
import Derived.Test.YtfclciebpnnieaaA26
namespace Go.Proofs.Ytfclciebpnnieaa
open Go.Ab

/-! ### marks -/
theorem bytes1 (x : Int) : (bytesOf ([[x]] : List (List Int))).size = 1 := rfl
theorem markT_loop : ∀ (n fuel : Nat) (k : Int) (s : ByteArray), 0 ≤ k → k < 10 ^ n → n < fuel → n ≤ 10 → s.size + n ≤ 1000000 → ∃ t, r85l0 fuel k s = (0, t) ∧ t.size ≤ s.size + n := by
  intro n
  induction n with
  | zero =>
    intro fuel k s h0 h1 hf _ _
    obtain ⟨m, rfl⟩ : ∃ m, fuel = m + 1 := ⟨fuel - 1, by omega⟩
    have : k = 0 := by simp at h1; omega
    subst this
    refine ⟨s, ?_, by omega⟩
    show b85l0 (r85l0 m) _ _ = _
    unfold b85l0
    rfl
  | succ n ih =>
    intro fuel k s h0 h1 hf hn hs
    obtain ⟨m, rfl⟩ : ∃ m, fuel = m + 1 := ⟨fuel - 1, by omega⟩
    have e : r85l0 (m + 1) k s = b85l0 (r85l0 m) k s := rfl
    rw [e]
    unfold b85l0
    by_cases hk : k > 0
    · have hp : (10 : Int) ^ (n + 1) = 10 ^ n * 10 := Int.pow_succ 10 n
      have hb : (10 : Int) ^ (n + 1) ≤ 10 ^ 10 := by
        have : (10 : Nat) ^ (n + 1) ≤ 10 ^ 10 := Nat.pow_le_pow_right (by decide) hn
        exact_mod_cast this
      have hb2 : (10 : Int) ^ 10 = 10000000000 := by decide
      have hd : Int.tdiv k 10 < 10 ^ n := by
        rw [Int.tdiv_eq_ediv_of_nonneg h0]
        omega
      have hd0 : 0 ≤ Int.tdiv k 10 := by
        rw [Int.tdiv_eq_ediv_of_nonneg h0]; omega
      have hsz : ∀ x : Int, (bytesOf ([[x]] : List (List Int)) ++ s).size = 1 + s.size := fun x => by rw [ByteArray.size_append, bytes1]
      rw [decide_eq_true hk, wrap_i64 (n := Int.tdiv k 10) (by omega) (by omega)]
      have hdec : ∀ x : Int, decide ((bytesOf ([[x]] : List (List Int))).size + s.size ≤ strMax) = true := fun x => decide_eq_true (by rw [bytes1]; unfold strMax; omega)
      rw [hdec, cond_true, cond_true]
      obtain ⟨t, t1, t2⟩ := ih m (Int.tdiv k 10) (bytesOf ([[(IntKind.u8.wrap (IntKind.i64.wrap (48 + (Int.tmod k 10))))]] : List (List Int)) ++ s) hd0 hd (by omega) (by omega) (by rw [hsz]; omega)
      exact ⟨t, t1, by rw [hsz] at t2; omega⟩
    · rw [decide_eq_false hk]
      exact ⟨s, rfl, by omega⟩
theorem markT {k : Int} (h0 : 0 ≤ k) (h1 : k < 1000000000) : ∃ t, r85 k = (0, t) := by
  unfold r85
  by_cases hk : k ≤ 0
  · rw [decide_eq_true hk]; exact ⟨_, rfl⟩
  · obtain ⟨t, t1, t2⟩ := markT_loop 9 (1000 + 0) k (ByteArray.mk #[]) h0 (by simpa using h1) (by omega) (by omega) (by decide)
    have hz : (ByteArray.mk #[]).size = 0 := rfl
    rw [decide_eq_false hk, t1]
    simp only [cond_false, show Nat.beq 0 0 = true from rfl, cond_true]
    rw [decide_eq_true (show 1 + t.size ≤ strMax by unfold strMax; omega)]
    exact ⟨_, rfl⟩
theorem markS : ∀ (n i fuel : Nat) (k : Int) (l : List ByteArray), i + n = l.length → n < fuel → 0 ≤ k → k + n ≤ 100000000 → l.length ≤ 1048576 → ∃ l', r58l0 fuel k (i : Int) l = (0, k + n, l') := by
  intro n
  induction n with
  | zero =>
    intro i fuel k l h hf _ _ _
    obtain ⟨m, rfl⟩ : ∃ m, fuel = m + 1 := ⟨fuel - 1, by omega⟩
    refine ⟨l, ?_⟩
    show b58l0 (r58l0 m) _ _ _ = _
    unfold b58l0
    rw [dlt_f (by omega)]; simp
  | succ n ih =>
    intro i fuel k l h hf h0 h1 hl
    obtain ⟨m, rfl⟩ : ∃ m, fuel = m + 1 := ⟨fuel - 1, by omega⟩
    have hi : i < l.length := by omega
    obtain ⟨t, ht⟩ := markT h0 (show k < 1000000000 by omega)
    obtain ⟨l', g⟩ := ih (i + 1) m (k + 1) (l.set i t) (by simp; omega) (by omega) (by omega) (by omega) (by simpa using hl)
    refine ⟨l', ?_⟩
    show b58l0 (r58l0 m) _ _ _ = _
    unfold b58l0
    rw [dlt_t hi, ht, dle0, Int.toNat_natCast, blt_t hi, wrap_succ (by omega), wrap_i64 (n := k + 1) (by omega) (by omega)]
    show r58l0 m (k + 1) _ _ = _
    rw [g]
    congr 2
    omega
theorem markO : ∀ (n i fuel : Nat) (k : Int) (l : List (List Int)), i + n = l.length → n < fuel → 0 ≤ k → k + 3 * n ≤ 100000000 → l.length ≤ 1048576 → ∃ l', r59l0 fuel k (i : Int) l = (0, k + 3 * n, l') := by
  intro n
  induction n with
  | zero =>
    intro i fuel k l h hf _ _ _
    obtain ⟨m, rfl⟩ : ∃ m, fuel = m + 1 := ⟨fuel - 1, by omega⟩
    refine ⟨l, ?_⟩
    show b59l0 (r59l0 m) _ _ _ = _
    unfold b59l0
    rw [dlt_f (by omega)]; simp
  | succ n ih =>
    intro i fuel k l h hf h0 h1 hl
    obtain ⟨m, rfl⟩ : ∃ m, fuel = m + 1 := ⟨fuel - 1, by omega⟩
    have hi : i < l.length := by omega
    show ∃ l', b59l0 (r59l0 m) k (i : Int) l = _
    unfold b59l0
    simp only [List.length_modify, Int.toNat_natCast]
    rw [dlt_t hi, dle0, blt_t hi, wrap_succ (by omega), wrap_i64 (n := k + 1) (by omega) (by omega), wrap_i64 (n := k + 1 + 1) (by omega) (by omega), wrap_i64 (n := k + 1 + 1 + 1) (by omega) (by omega)]
    obtain ⟨l', g⟩ := ih (i + 1) m (k + 1 + 1 + 1) (((l.modify i (fun r => spl 3 r 0 [(IntKind.i8.wrap k)])).modify i (fun r => spl 3 r 1 [(IntKind.i16.wrap (k + 1))])).modify i (fun r => spl 3 r 2 [(((ofInt .f32 (k + 1 + 1)) : Nat) : Int)])) (by simp; omega) (by omega) (by omega) (by omega) (by simpa using hl)
    refine ⟨l', ?_⟩
    show r59l0 m (k + 1 + 1 + 1) _ _ = _
    rw [g]
    congr 2
    omega
theorem markP {l : List ByteArray} {o : List (List Int)} (hl : l.length ≤ 1048576) (ho : o.length ≤ 1048576) : ∃ k l' o', r24 1 l o = (0, k, l', o') ∧ 0 ≤ k := by
  obtain ⟨l', g1⟩ := markS l.length 0 (1000 + l.length) 1 l (by omega) (by omega) (by decide) (by omega) hl
  obtain ⟨o', g2⟩ := markO o.length 0 (1000 + o.length) (1 + (l.length : Int)) o (by omega) (by omega) (by omega) (by omega) ho
  have g1' : r58l0 (1000 + l.length) 1 0 l = (0, 1 + (l.length : Int), l') := g1
  have g2' : r59l0 (1000 + o.length) (1 + (l.length : Int)) 0 o = (0, 1 + (l.length : Int) + 3 * (o.length : Int), o') := g2
  have e1 : r58 1 l = (0, 1 + (l.length : Int), l') := by unfold r58; rw [g1']; rfl
  have e2 : r59 (1 + (l.length : Int)) o = (0, 1 + (l.length : Int) + 3 * (o.length : Int), o') := by unfold r59; rw [g2']; rfl
  refine ⟨1 + (l.length : Int) + 3 * (o.length : Int), l', o', ?_, by omega⟩
  unfold r24
  rw [e1, e2]; rfl


/-! ### what is given -/
theorem fin2 (x y : Nat) : r51b x y = (r70 x && r70 y) := by
  have e : r51b x y = (r51 x && r51 y) := by
    unfold r51b r51
    cases r79 (widen x) <;> cases r80 (widen x) 0 <;> cases r79 (widen y) <;> cases r80 (widen y) 0 <;> rfl
  rw [e, finI, finI, finS, finS]
theorem given_eq {l : List ByteArray} {o : List (List Int)} (h : r48 l o = (0, true)) (x0 x1 x2 x3 x4 x5 x6 x7 : Nat) : ∃ b, r64 x0 x1 x2 x3 x4 x5 x6 x7 = b ∧ r67 x0 x1 x2 x3 x4 x5 x6 x7 l o = (0, cond b 0 2) := by
  have e63 : ∀ x y, r63 x y = r71 x y := fun _ _ => rfl
  unfold r64 r67
  rw [h]
  simp only [fin2, e63]
  generalize r71 x0 x1 = b0
  generalize r70 x0 = b1
  generalize r70 x1 = b2
  generalize r71 x2 x3 = b3
  generalize r70 x2 = b4
  generalize r70 x3 = b5
  generalize r71 x4 x5 = b6
  generalize r70 x4 = b7
  generalize r70 x5 = b8
  generalize r71 x6 x7 = b9
  generalize r70 x6 = b10
  generalize r70 x7 = b11
  cases b0 with
  | false => exact ⟨_, rfl, rfl⟩
  | true =>
  cases b1 with
  | false => exact ⟨_, rfl, rfl⟩
  | true =>
  cases b2 with
  | false => exact ⟨_, rfl, rfl⟩
  | true =>
  cases b3 with
  | false => exact ⟨_, rfl, rfl⟩
  | true =>
  cases b4 with
  | false => exact ⟨_, rfl, rfl⟩
  | true =>
  cases b5 with
  | false => exact ⟨_, rfl, rfl⟩
  | true =>
  cases b6 with
  | false => exact ⟨_, rfl, rfl⟩
  | true =>
  cases b7 with
  | false => exact ⟨_, rfl, rfl⟩
  | true =>
  cases b8 with
  | false => exact ⟨_, rfl, rfl⟩
  | true =>
  cases b9 with
  | false => exact ⟨_, rfl, rfl⟩
  | true =>
  cases b10 with
  | false => exact ⟨_, rfl, rfl⟩
  | true =>
  cases b11 with
  | false => exact ⟨_, rfl, rfl⟩
  | true =>
  exact ⟨_, rfl, rfl⟩

/-- numbers are marked, and the marks are there -/
def Marked (r : List (List Int)) (i : Nat) : Prop := ∀ j, j < i → (r.getD j []).getD 0 0 = (((ofInt .f32 (1 + 2 * (j : Int))) : Nat) : Int) ∧ (r.getD j []).getD 1 0 = (((ofInt .f32 (1 + 2 * (j : Int) + 1)) : Nat) : Int)
theorem two_set {l : List (List Int)} {i : Nat} (hi : i < l.length) (a b : Int) : (((l.modify i (fun r => spl 2 r 0 [a])).modify i (fun r => spl 2 r 1 [b])).getD i []).getD 0 0 = a ∧ (((l.modify i (fun r => spl 2 r 0 [a])).modify i (fun r => spl 2 r 1 [b])).getD i []).getD 1 0 = b := by
  have e : ((l.modify i (fun r => spl 2 r 0 [a])).modify i (fun r => spl 2 r 1 [b])).getD i [] = spl 2 (spl 2 (l.getD i []) 0 [a]) 1 [b] := by
    rw [modify_modify]
    simp [List.getD, List.getElem?_modify, hi]
  rw [e]
  constructor
  · rw [spl_getD _ _ _ _ _ (by omega), if_neg (by omega), spl_getD _ _ _ _ _ (by omega), if_pos (by simp)]; rfl
  · rw [spl_getD _ _ _ _ _ (by omega), if_pos (by simp)]; rfl
theorem two_ne {l : List (List Int)} {i j : Nat} (h : i ≠ j) (a b : Int) : ((l.modify i (fun r => spl 2 r 0 [a])).modify i (fun r => spl 2 r 1 [b])).getD j [] = l.getD j [] := by
  simp [List.getD, List.getElem?_modify, h]
theorem markF : ∀ (n i fuel : Nat) (l : List (List Int)), i + n = l.length → n < fuel → l.length ≤ 1048576 → Marked l i → ∃ l', r34l0b fuel (1 + 2 * (i : Int)) (i : Int) l = (0, 1 + 2 * (l.length : Int), l') ∧ l'.length = l.length ∧ Marked l' l.length := by
  intro n
  induction n with
  | zero =>
    intro i fuel l h hf _ hm
    obtain ⟨m, rfl⟩ : ∃ m, fuel = m + 1 := ⟨fuel - 1, by omega⟩
    have e : i = l.length := by omega
    subst e
    refine ⟨l, ?_, rfl, hm⟩
    show b34l0b (r34l0b m) _ _ _ = _
    unfold b34l0b
    rw [dlt_f (by omega)]; rfl
  | succ n ih =>
    intro i fuel l h hf hl hm
    obtain ⟨m, rfl⟩ : ∃ m, fuel = m + 1 := ⟨fuel - 1, by omega⟩
    have hi : i < l.length := by omega
    have hlen : ((l.modify i (fun r => spl 2 r 0 [(((ofInt .f32 (1 + 2 * (i : Int))) : Nat) : Int)])).modify i (fun r => spl 2 r 1 [(((ofInt .f32 (1 + 2 * (i : Int) + 1)) : Nat) : Int)])).length = l.length := by simp
    obtain ⟨l', g1, g2, g3⟩ := ih (i + 1) m _ (by rw [hlen]; omega) (by omega) (by rw [hlen]; exact hl) (by
      intro j hj
      by_cases e : j = i
      · subst e
        exact two_set hi _ _
      · rw [two_ne (Ne.symm e)]
        exact hm j (by omega))
    rw [hlen] at g1 g2 g3
    refine ⟨l', ?_, g2, g3⟩
    show b34l0b (r34l0b m) _ _ _ = _
    unfold b34l0b
    simp only [List.length_modify, Int.toNat_natCast]
    rw [dlt_t hi, dle0, blt_t hi, wrap_succ (by omega), wrap_i64 (n := 1 + 2 * (i : Int) + 1) (by omega) (by omega), wrap_i64 (n := 1 + 2 * (i : Int) + 1 + 1) (by omega) (by omega)]
    have e : (1 + 2 * (i : Int) + 1 + 1) = 1 + 2 * ((i + 1 : Nat) : Int) := by omega
    rw [e]
    exact g1
theorem heldF {l : List (List Int)} (hl : l.length ≤ 1048576) (hm : Marked l l.length) : ∀ (n i fuel : Nat), i + n = l.length → n < fuel → r35l0b fuel (1 + 2 * (i : Int)) (i : Int) l = (1, 0, 1 + 2 * (l.length : Int)) := by
  intro n
  induction n with
  | zero =>
    intro i fuel h hf
    obtain ⟨m, rfl⟩ : ∃ m, fuel = m + 1 := ⟨fuel - 1, by omega⟩
    show b35l0b (r35l0b m) _ _ _ = _
    unfold b35l0b
    rw [dlt_f (by omega), show i = l.length by omega]; rfl
  | succ n ih =>
    intro i fuel h hf
    obtain ⟨m, rfl⟩ : ∃ m, fuel = m + 1 := ⟨fuel - 1, by omega⟩
    have hi : i < l.length := by omega
    show b35l0b (r35l0b m) _ _ _ = _
    unfold b35l0b
    rw [wrap_i64 (n := 1 + 2 * (i : Int) + 1) (by omega) (by omega), dlt_t hi, dle0, Int.toNat_natCast, blt_t hi, (hm i hi).1, (hm i hi).2, Int.toNat_natCast, Int.toNat_natCast, ofInt_same, ofInt_same, wrap_succ (by omega), wrap_i64 (n := 1 + 2 * (i : Int) + 1 + 1) (by omega) (by omega)]
    have e : (1 + 2 * (i : Int) + 1 + 1) = 1 + 2 * ((i + 1 : Nat) : Int) := by omega
    rw [e]
    exact ih (i + 1) m (by omega) (by omega)
theorem marks {l : List (List Int)} (hl : l.length ≤ 1048576) : ∃ l', r34b 1 l = (0, 1 + 2 * (l.length : Int), l') ∧ r35b 1 l' = (0, 1 + 2 * (l.length : Int)) := by
  obtain ⟨l', g1, g2, g3⟩ := markF l.length 0 (1000 + l.length) l (by omega) (by omega) hl (fun j hj => by omega)
  have g1' : r34l0b (1000 + l.length) 1 0 l = (0, 1 + 2 * (l.length : Int), l') := g1
  have g4 := heldF (l := l') (by omega) (by rw [g2]; exact g3) l'.length 0 (1000 + l'.length) (by omega) (by omega)
  rw [g2] at g4
  have g4' : r35l0b (1000 + l'.length) 1 0 l' = (1, 0, 1 + 2 * (l.length : Int)) := by rw [g2]; exact g4
  refine ⟨l', ?_, ?_⟩
  · unfold r34b; rw [g1']; rfl
  · unfold r35b; rw [g4']; rfl
theorem span_self (a b : Nat) : r38 a b a b = true := by
  unfold r38; rw [float_self, float_self]; rfl
theorem spans_self {l : List (List Int)} (hl : l.length ≤ 1048576) : r33b l l = (0, true) := by
  have key : r33l0b (1000 + l.length + l.length) 0 l l = 1 := by
    have := all_loop (n := l.length) (p := fun _ => true) (yes := 1) (no := 0) (G := fun m i => r33l0b m i l l) (fuel := 1000 + l.length + l.length) ?_ ?_ (by omega)
    · rw [this, show allN l.length (fun _ => true) = true from allN_true.2 (fun _ _ => rfl)]; rfl
    · intro m
      show b33l0b (r33l0b m) _ _ _ = _
      unfold b33l0b
      rw [dlt_f (Nat.lt_irrefl _)]; rfl
    · intro m i hi
      show b33l0b (r33l0b m) _ _ _ = _
      unfold b33l0b
      simp only [span_self]
      rw [dlt_t hi, dle0, Int.toNat_natCast, blt_t hi, wrap_succ (by omega)]
      rfl
  unfold r33b
  rw [key, bne_len]; simp [Nat.beq]

theorem plain8 (x0 x1 x2 x3 x4 x5 x6 x7 : Nat) (x8 : List ByteArray) (x9 : List (List Int)) (_ : FloatKind.f32.has x0) (_ : FloatKind.f32.has x1) (_ : FloatKind.f32.has x2) (_ : FloatKind.f32.has x3) (_ : FloatKind.f32.has x4) (_ : FloatKind.f32.has x5) (_ : FloatKind.f32.has x6) (_ : FloatKind.f32.has x7) (s8 : ∀ s ∈ x8, s.size ≤ 9223372036854775807) (l8 : x8.length ≤ 9223372036854775807) (k9 : RowsOk S3 x9) (l9 : x9.length ≤ 9223372036854775807) : r8 x0 x1 x2 x3 x4 x5 x6 x7 x8 x9 = (0, true) := by
  unfold r8
  obtain ⟨v, e, hv⟩ := szP s8 l8 l9 (show (0 : Int) ≤ 1048576 by decide) (Int.le_refl _)
  rw [e]
  rcases hv with rfl | ⟨g1, g2, g3, g4⟩
  · rfl
  rw [decide_eq_false (show ¬ v < 0 by omega), copyP k9 g3 g4]
  obtain ⟨b, c1, c2⟩ := valid_both s8 k9 g3 g4
  obtain ⟨km, l', o', m1, m2⟩ := markP g3 g4
  cases b with
  | false =>
    have d0 : r67 x0 x1 x2 x3 x4 x5 x6 x7 x8 x9 = (0, 1) := by unfold r67; rw [c1]; rfl
    have d1 : r31 x0 x1 x2 x3 x4 x5 x6 x7 x8 x9 = (0, 1, []) := by unfold r31; rw [d0]; rfl
    have d2 : r32 x0 x1 x2 x3 x4 x5 x6 x7 x8 x9 = (0, 1, []) := by unfold r32; rw [c2]; rfl
    simp only [d1, d2, prog_self g3 g4, m1]
    rw [decide_eq_false (show ¬ km < 0 by omega)]
    rfl
  | true =>
    obtain ⟨q, q1, q2⟩ := given_eq c1 x0 x1 x2 x3 x4 x5 x6 x7
    cases q with
    | false =>
      have d1 : r31 x0 x1 x2 x3 x4 x5 x6 x7 x8 x9 = (0, 2, []) := by unfold r31; rw [q2]; rfl
      have d2 : r32 x0 x1 x2 x3 x4 x5 x6 x7 x8 x9 = (0, 2, []) := by unfold r32; rw [c2, q1]; rfl
      simp only [d1, d2, prog_self g3 g4, m1]
      rw [decide_eq_false (show ¬ km < 0 by omega)]
      rfl
    | true =>
      obtain ⟨w, w0, w1, w2⟩ := run_both k9 g4 g3 c1 x0 x1 x2 x3 x4 x5 x6 x7
      have w3 : r66 x0 x1 x2 x3 x4 x5 x6 x7 x8 x9 = (0, w) := by unfold r66; rw [w2]; rfl
      have d1 : r31 x0 x1 x2 x3 x4 x5 x6 x7 x8 x9 = (0, 0, w) := by unfold r31; rw [q2, w1]; rfl
      have d2 : r32 x0 x1 x2 x3 x4 x5 x6 x7 x8 x9 = (1, 0, w) := by unfold r32; rw [c2, q1, w3]; rfl
      obtain ⟨w', n1, n2⟩ := marks (l := w) (by omega)
      simp only [d1, d2, prog_self g3 g4, m1, n1, n2, spans_self (show w.length ≤ 1048576 by omega)]
      rw [decide_eq_false (show ¬ km < 0 by omega), decide_eq_false (show ¬ (1 + 2 * (w.length : Int)) < 0 by omega)]
      simp [Nat.beq]
end Go.Proofs.Ytfclciebpnnieaa
