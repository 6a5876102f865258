/- The plain law of NarrowInput. -/
import Derived.Test.YtfclciebpnnieaaPni3
namespace Go.Proofs.Ytfclciebpnnieaa
open Go.Ab

theorem find_loops {l : List ByteArray} (hl : l.length ≤ 1048576) (s : ByteArray) : ∀ (k j fs fi : Nat), j + k = l.length → k < fs → k < fi →
    (r54l0b fs s (j : Int) l = (1, 0) ∧ r56l0b fi s ((l.length : Nat) : Int) (j : Int) l = (1, 0)) ∨ ∃ v : Nat, v < l.length ∧ r54l0b fs s (j : Int) l = (0, (v : Int)) ∧ r56l0b fi s ((l.length : Nat) : Int) (j : Int) l = (0, (v : Int)) := by
  intro k
  induction k with
  | zero =>
    intro j fs fi h hf1 hf2
    obtain ⟨m, rfl⟩ : ∃ m, fs = m + 1 := ⟨fs - 1, by omega⟩
    obtain ⟨m', rfl⟩ : ∃ m, fi = m + 1 := ⟨fi - 1, by omega⟩
    refine .inl ⟨?_, ?_⟩
    · show b54l0b (r54l0b m) _ _ _ = _
      unfold b54l0b
      rw [dlt_f (by omega)]; rfl
    · show b56l0b (r56l0b m') _ _ _ _ = _
      unfold b56l0b
      rw [dlt_f (by omega)]; rfl
  | succ k ih =>
    intro j fs fi h hf1 hf2
    obtain ⟨m, rfl⟩ : ∃ m, fs = m + 1 := ⟨fs - 1, by omega⟩
    obtain ⟨m', rfl⟩ : ∃ m, fi = m + 1 := ⟨fi - 1, by omega⟩
    have hj : j < l.length := by omega
    have e1 : r54l0b (m + 1) s (j : Int) l = cond ((l.getD j .empty).toList == s.toList) (0, (j : Int)) (r54l0b m s ((j + 1 : Nat) : Int) l) := by
      show b54l0b (r54l0b m) _ _ _ = _
      unfold b54l0b
      rw [dlt_t hj, dle0, Int.toNat_natCast, blt_t hj, wrap_succ (by omega)]; rfl
    have e2 : r56l0b (m' + 1) s ((l.length : Nat) : Int) (j : Int) l = cond ((l.getD j .empty).toList == s.toList) (0, (j : Int)) (r56l0b m' s ((l.length : Nat) : Int) ((j + 1 : Nat) : Int) l) := by
      show b56l0b (r56l0b m') _ _ _ _ = _
      unfold b56l0b
      rw [dlt_t hj, dle0, Int.toNat_natCast, blt_t hj, wrap_succ (by omega), BEq.comm (a := s.toList)]; rfl
    rw [e1, e2]
    cases (l.getD j .empty).toList == s.toList with
    | true => exact .inr ⟨j, hj, rfl, rfl⟩
    | false => exact ih (j + 1) m m' (by omega) (by omega) (by omega)
theorem find_both {l : List ByteArray} (hl : l.length ≤ 1048576) (s : ByteArray) : (r54b s l = (0, -1) ∧ r56b s l = (0, -1)) ∨ ∃ v : Nat, v < l.length ∧ r54b s l = (0, (v : Int)) ∧ r56b s l = (0, (v : Int)) := by
  rcases find_loops hl s l.length 0 (1000 + l.length + s.size) (1000 + l.length + s.size) (by omega) (by omega) (by omega) with ⟨g1, g2⟩ | ⟨v, g0, g1, g2⟩
  · have g1' : r54l0b (1000 + l.length + s.size) s 0 l = (1, 0) := g1
    have g2' : r56l0b (1000 + l.length + s.size) s ((l.length : Nat) : Int) 0 l = (1, 0) := g2
    refine .inl ⟨?_, ?_⟩
    · unfold r54b; rw [g1']; rfl
    · unfold r56b; rw [g2']; rfl
  · have g1' : r54l0b (1000 + l.length + s.size) s 0 l = (0, (v : Int)) := g1
    have g2' : r56l0b (1000 + l.length + s.size) s ((l.length : Nat) : Int) 0 l = (0, (v : Int)) := g2
    refine .inr ⟨v, g0, ?_, ?_⟩
    · unfold r54b; rw [g1']; rfl
    · unfold r56b; rw [g2']; rfl

/-! ### what is given -/
theorem fin2 (x y : Nat) : r51b x y = (r70 x && r70 y) := by
  have e : r51b x y = (r51 x && r51 y) := by
    unfold r51b r51
    cases r79 (widen x) <;> cases r80 (widen x) 0 <;> cases r79 (widen y) <;> cases r80 (widen y) 0 <;> rfl
  rw [e, finI, finI, finS, finS]
theorem given_eq {l : List ByteArray} {o : List (List Int)} (h : r48 l o = (0, true)) (x0 x1 x2 x3 x4 x5 x6 x7 : Nat) : ∃ b, r64 x0 x1 x2 x3 x4 x5 x6 x7 = b ∧ r67 x0 x1 x2 x3 x4 x5 x6 x7 l o = (0, cond b 0 2) := by
  have e63 : ∀ x y, r63 x y = r71 x y := fun _ _ => rfl
  unfold r64 r67
  rw [h]
  simp only [fin2, e63]
  generalize r71 x0 x1 = b0
  generalize r70 x0 = b1
  generalize r70 x1 = b2
  generalize r71 x2 x3 = b3
  generalize r70 x2 = b4
  generalize r70 x3 = b5
  generalize r71 x4 x5 = b6
  generalize r70 x4 = b7
  generalize r70 x5 = b8
  generalize r71 x6 x7 = b9
  generalize r70 x6 = b10
  generalize r70 x7 = b11
  cases b0 with
  | false => exact ⟨_, rfl, rfl⟩
  | true =>
  cases b1 with
  | false => exact ⟨_, rfl, rfl⟩
  | true =>
  cases b2 with
  | false => exact ⟨_, rfl, rfl⟩
  | true =>
  cases b3 with
  | false => exact ⟨_, rfl, rfl⟩
  | true =>
  cases b4 with
  | false => exact ⟨_, rfl, rfl⟩
  | true =>
  cases b5 with
  | false => exact ⟨_, rfl, rfl⟩
  | true =>
  cases b6 with
  | false => exact ⟨_, rfl, rfl⟩
  | true =>
  cases b7 with
  | false => exact ⟨_, rfl, rfl⟩
  | true =>
  cases b8 with
  | false => exact ⟨_, rfl, rfl⟩
  | true =>
  cases b9 with
  | false => exact ⟨_, rfl, rfl⟩
  | true =>
  cases b10 with
  | false => exact ⟨_, rfl, rfl⟩
  | true =>
  cases b11 with
  | false => exact ⟨_, rfl, rfl⟩
  | true =>
  exact ⟨_, rfl, rfl⟩



/-! ### the ends of the parts -/
/-- The end with number i of n parts from a to b. -/
def Eg (a b n i : Nat) : Nat := cond (decide (i < n)) (fadd .f32 a (fmul .f32 (fdiv .f32 (ofInt .f32 (i : Int)) (ofInt .f32 (n : Int))) (fsub .f32 b a))) b
theorem Eg_lt {a b n i : Nat} (h : i < n) : Eg a b n i = fadd .f32 a (fmul .f32 (fdiv .f32 (ofInt .f32 (i : Int)) (ofInt .f32 (n : Int))) (fsub .f32 b a)) := by
  unfold Eg; rw [decide_eq_true h]; rfl
theorem Eg_ge {a b n i : Nat} (h : ¬ i < n) : Eg a b n i = b := by
  unfold Eg; rw [decide_eq_false h]; rfl
theorem cut_eq {a b n i : Nat} (h : i < n) (hn : n ≤ 64) : r69 a b (i : Int) (n : Int) = (Eg a b n i, Eg a b n (i + 1)) := by
  unfold r69
  rw [wrap_succ (by omega), Eg_lt h]
  by_cases h' : i + 1 < n
  · rw [dlt_t h', Eg_lt h']; rfl
  · rw [dlt_f h', Eg_ge h']; rfl
def esOf (a b n k : Nat) : List (List Int) := (List.range k).map fun i => [((Eg a b n i : Nat) : Int)]
theorem esOf_succ (a b n k : Nat) : esOf a b n (k + 1) = esOf a b n k ++ [[((Eg a b n k : Nat) : Int)]] := by
  unfold esOf; rw [List.range_succ, List.map_append]; rfl
theorem esOf_len (a b n k : Nat) : (esOf a b n k).length = k := by unfold esOf; simp
theorem esOf_at {a b n k i : Nat} (h : i < k) : Int.toNat (((esOf a b n k).getD i []).getD 0 0) = Eg a b n i := by
  have e : (esOf a b n k).getD i [] = [((Eg a b n i : Nat) : Int)] := by
    unfold esOf; simp [List.getD_eq_getElem?_getD, h]
  rw [e]; rfl
theorem ends_loop {a b n : Nat} (hn : n ≤ 64) {x0 x2 : Int} {x5 x6 x7 x8 x9 x10 x11 x12 x13 x14 x15 x16 : Nat} {x20 : List ByteArray} {x21 : List (List Int)} : ∀ (k i fuel : Nat), i + k = n → k < fuel →
    r37l0 fuel x0 (n : Int) x2 (n : Int) (i : Int) x5 x6 x7 x8 x9 x10 x11 x12 x13 x14 x15 x16 a b (esOf a b n i) x20 x21 = cond (Nat.beq k 0) (1, []) (0, esOf a b n n) := by
  intro k
  induction k with
  | zero =>
    intro i fuel h hf
    obtain ⟨m, rfl⟩ : ∃ m, fuel = m + 1 := ⟨fuel - 1, by omega⟩
    show b37l0 (r37l0 m) _ _ _ _ _ _ _ _ _ _ _ _ _ _ _ _ _ _ _ _ _ _ = _
    unfold b37l0
    rw [dlt_f (by omega)]; rfl
  | succ k ih =>
    intro i fuel h hf
    obtain ⟨m, rfl⟩ : ∃ m, fuel = m + 1 := ⟨fuel - 1, by omega⟩
    show b37l0 (r37l0 m) _ _ _ _ _ _ _ _ _ _ _ _ _ _ _ _ _ _ _ _ _ _ = _
    have hi : i < n := by omega
    unfold b37l0
    rw [dlt_t hi, tk, ← Eg_lt (a := a) (b := b) hi, ← esOf_succ, esOf_len, wrap_succ (by omega), ih (i + 1) m (by omega) (by omega), ble_t (show (i + 1) * 5 ≤ 140737488355328 by omega)]
    cases k with
    | zero => obtain rfl : n = i + 1 := by omega
              rfl
    | succ k => rfl
theorem order_fin {x y : Nat} (hx : x % 2147483648 < 2139095040) (hy : y % 2147483648 < 2139095040) : r71 x y = !(fgt .f32 x y) := by
  have nx : isN .f32 x = false := by rw [isN_iff]; exact decide_eq_false (by show ¬ (2139095040 < x % 2147483648); omega)
  have ny : isN .f32 y = false := by rw [isN_iff]; exact decide_eq_false (by show ¬ (2139095040 < y % 2147483648); omega)
  unfold r71
  rw [flt_key _ _ _ nx ny, feq_key _ _ _ nx ny, fgt_key _ _ _ nx ny]
  by_cases h1 : key FloatKind.f32.format x < key FloatKind.f32.format y
  · simp [h1, Int.le_of_lt h1]
  · by_cases h2 : key FloatKind.f32.format x = key FloatKind.f32.format y
    · simp [h2]
    · have : key FloatKind.f32.format y < key FloatKind.f32.format x := by omega
      simp [h1, h2, this]
theorem check_loop {a b n : Nat} (hn : n ≤ 64) {es : List (List Int)} (hl : es.length = n + 1) (he : ∀ i, i ≤ n → Int.toNat ((es.getD i []).getD 0 0) = Eg a b n i) {x0 x2 : Int} {y4 y5 y6 y7 y8 y9 y10 y11 y12 y13 y14 y15 : Nat} {x5 x6 x7 x8 x9 x10 x11 x12 x13 x14 x15 x16 : Nat} {nm : List ByteArray} {ops : List (List Int)} : ∀ (k i fs fi : Nat), i + k = n → k < fs → k < fi →
    ∃ q : Bool, r36l0 fs x0 (n : Int) x2 (i : Int) y4 y5 y6 y7 y8 y9 y10 y11 y12 y13 y14 y15 a b nm ops = cond q 1 0 ∧ r37l1 fi x0 (n : Int) x2 (n : Int) (i : Int) x5 x6 x7 x8 x9 x10 x11 x12 x13 x14 x15 x16 es nm ops = cond q 1 0 := by
  intro k
  induction k with
  | zero =>
    intro i fs fi h hf1 hf2
    obtain ⟨m, rfl⟩ : ∃ m, fs = m + 1 := ⟨fs - 1, by omega⟩
    obtain ⟨m', rfl⟩ : ∃ m, fi = m + 1 := ⟨fi - 1, by omega⟩
    refine ⟨true, ?_, ?_⟩
    · show b36l0 (r36l0 m) _ _ _ _ _ _ _ _ _ _ _ _ _ _ _ _ _ _ _ _ = _
      unfold b36l0
      rw [dlt_f (by omega)]; rfl
    · show b37l1 (r37l1 m') _ _ _ _ _ _ _ _ _ _ _ _ _ _ _ _ _ _ _ _ = _
      unfold b37l1
      rw [dlt_f (by omega)]; rfl
  | succ k ih =>
    intro i fs fi h hf1 hf2
    obtain ⟨m, rfl⟩ : ∃ m, fs = m + 1 := ⟨fs - 1, by omega⟩
    obtain ⟨m', rfl⟩ : ∃ m, fi = m + 1 := ⟨fi - 1, by omega⟩
    have hi : i < n := by omega
    have e1 : r36l0 (m + 1) x0 (n : Int) x2 (i : Int) y4 y5 y6 y7 y8 y9 y10 y11 y12 y13 y14 y15 a b nm ops = cond (!(r70 (Eg a b n i))) 0 (cond (!(r70 (Eg a b n (i + 1)))) 0 (cond (!(r71 (Eg a b n i) (Eg a b n (i + 1)))) 0 (r36l0 m x0 (n : Int) x2 ((i + 1 : Nat) : Int) y4 y5 y6 y7 y8 y9 y10 y11 y12 y13 y14 y15 a b nm ops))) := by
      show b36l0 (r36l0 m) _ _ _ _ _ _ _ _ _ _ _ _ _ _ _ _ _ _ _ _ = _
      unfold b36l0
      rw [dlt_t hi, cut_eq hi hn, wrap_succ (by omega)]; rfl
    have e2 : r37l1 (m' + 1) x0 (n : Int) x2 (n : Int) (i : Int) x5 x6 x7 x8 x9 x10 x11 x12 x13 x14 x15 x16 es nm ops = cond (!(r51b (Eg a b n i) (Eg a b n (i + 1)))) 0 (cond (fgt .f32 (Eg a b n i) (Eg a b n (i + 1))) 0 (r37l1 m' x0 (n : Int) x2 (n : Int) ((i + 1 : Nat) : Int) x5 x6 x7 x8 x9 x10 x11 x12 x13 x14 x15 x16 es nm ops)) := by
      show b37l1 (r37l1 m') _ _ _ _ _ _ _ _ _ _ _ _ _ _ _ _ _ _ _ _ = _
      unfold b37l1
      rw [wrap_succ (by omega), dlt_t hi, dle0, dle0, Int.toNat_natCast, Int.toNat_natCast, blt_t (by omega), blt_t (by omega), he i (by omega), he (i + 1) (by omega)]; rfl
    rw [e1, e2, fin2]
    cases h1 : r70 (Eg a b n i) with
    | false => exact ⟨false, rfl, rfl⟩
    | true =>
    cases h2 : r70 (Eg a b n (i + 1)) with
    | false => exact ⟨false, rfl, rfl⟩
    | true =>
    rw [finS] at h1 h2
    rw [order_fin (of_decide_eq_true h1) (of_decide_eq_true h2)]
    cases fgt .f32 (Eg a b n i) (Eg a b n (i + 1)) with
    | true => exact ⟨false, rfl, rfl⟩
    | false => exact ih (i + 1) m m' (by omega) (by omega) (by omega)

/-! ### the runs -/
/-- The two sides' answers of the runs go together. -/
def Cpl (a b n : Nat) (S : Nat × Int × Nat × Nat × Nat × Nat × Nat × Nat × Nat × Nat × Nat × Nat) (P : Nat × Int × Int × Int × Nat × Nat × Nat × Nat × Nat × Nat × Nat × Nat) : Prop :=
  S.1 = 0 ∧ P.1 = 0 ∧ ∃ m : Nat, S.2.1 = (m : Int) ∧ P.2.2.2.1 = (m : Int) ∧ (m = 0 ∨ ∃ f g : Nat, f ≤ n ∧ g ≤ n ∧ P.2.2.1 = (f : Int) ∧ P.2.1 = (g : Int) ∧ S.2.2.2.2.2.2.2.2.2.2.1 = Eg a b n f ∧ S.2.2.2.2.2.2.2.2.2.2.2 = Eg a b n g)
theorem wsubN {a b : Nat} (h : b ≤ a) (ha : a ≤ 64) : IntKind.i64.wrap (((a : Nat) : Int) - ((b : Nat) : Int)) = ((a - b : Nat) : Int) := by
  rw [show ((a : Nat) : Int) - ((b : Nat) : Int) = ((a - b : Nat) : Int) by omega]
  exact wrap_nat (by omega)
theorem dgt {a b : Nat} : decide (((a : Nat) : Int) > ((b : Nat) : Int)) = decide (b < a) := by
  by_cases h : b < a
  · rw [decide_eq_true h]; exact decide_eq_true (by omega)
  · rw [decide_eq_false h]; exact decide_eq_false (by omega)

theorem rdS0 {a b n i j m r bg bl bh lw hh z2 z3 y0 y1 y2 y3 y4 y5 y6 y7 : Nat} {nm : List ByteArray} {ops w : List (List Int)} (hn : n ≤ 64) (hi : i < n) (hr : r ≤ i) (hj : j < w.length)
    (hw : r62 (Eg a b n i) (Eg a b n (i + 1)) y2 y3 y4 y5 y6 y7 nm ops = (0, w)) (ih : Int → Int → Int → Int → Int → Nat → Int → Nat → Nat → Nat → Nat → Nat → Nat → Nat → Nat → Nat → Nat → Nat → Nat → Nat → Nat → Nat → Nat → List ByteArray → List (List Int) → (Nat × Int × Nat × Nat × Nat × Nat × Nat × Nat × Nat × Nat × Nat × Nat)) :
    b36l1 ih (0 : Int) (n : Int) (j : Int) (m : Int) (r : Int) bg (i : Int) y0 y1 y2 y3 y4 y5 y6 y7 lw hh z2 z3 a b bl bh nm ops =
     cond (!(r61 (Int.toNat ((w.getD j []).getD 0 0)) (Int.toNat ((w.getD j []).getD 1 0)) lw hh)) (ih (0 : Int) (n : Int) (j : Int) (m : Int) 0 bg ((i + 1 : Nat) : Int) (Eg a b n i) (Eg a b n (i + 1)) y2 y3 y4 y5 y6 y7 lw hh z2 z3 a b bl bh nm ops)
      (cond ((r : Int) == 0)
       (cond (decide (((r + 1 : Nat) : Int) > (m : Int))) (ih (0 : Int) (n : Int) (j : Int) ((r + 1 : Nat) : Int) ((r + 1 : Nat) : Int) (Eg a b n i) ((i + 1 : Nat) : Int) (Eg a b n i) (Eg a b n (i + 1)) y2 y3 y4 y5 y6 y7 lw hh z2 z3 a b (Eg a b n i) (Eg a b n (i + 1)) nm ops) (ih (0 : Int) (n : Int) (j : Int) (m : Int) ((r + 1 : Nat) : Int) (Eg a b n i) ((i + 1 : Nat) : Int) (Eg a b n i) (Eg a b n (i + 1)) y2 y3 y4 y5 y6 y7 lw hh z2 z3 a b bl bh nm ops))
       (cond (decide (((r + 1 : Nat) : Int) > (m : Int))) (ih (0 : Int) (n : Int) (j : Int) ((r + 1 : Nat) : Int) ((r + 1 : Nat) : Int) bg ((i + 1 : Nat) : Int) (Eg a b n i) (Eg a b n (i + 1)) y2 y3 y4 y5 y6 y7 lw hh z2 z3 a b bg (Eg a b n (i + 1)) nm ops) (ih (0 : Int) (n : Int) (j : Int) (m : Int) ((r + 1 : Nat) : Int) bg ((i + 1 : Nat) : Int) (Eg a b n i) (Eg a b n (i + 1)) y2 y3 y4 y5 y6 y7 lw hh z2 z3 a b bl bh nm ops))) := by
  unfold b36l1
  rw [cut_eq hi hn, dlt_t hi, wrap_succ (show i < 9223372036854775807 by omega), wrap_succ (show r < 9223372036854775807 by omega)]
  dsimp only
  rw [hw]
  dsimp only
  rw [dle0 j, Int.toNat_natCast j, blt_t hj]
  rfl
theorem rdI0 {a b n i j m r lw hh z0 z1 y0 y1 y2 y3 y4 y5 y6 y7 : Nat} {be fr : Int} {nm : List ByteArray} {ops w es : List (List Int)} (hn : n ≤ 64) (hi : i < n) (hr : r ≤ i) (hj : j < w.length)
    (hl : es.length = n + 1) (he : ∀ i, i ≤ n → Int.toNat ((es.getD i []).getD 0 0) = Eg a b n i) (hw : r66 (Eg a b n i) (Eg a b n (i + 1)) y2 y3 y4 y5 y6 y7 nm ops = (0, w)) (ih : Int → Int → Int → Int → Int → Int → Int → Int → Nat → Nat → Nat → Nat → Nat → Nat → Nat → Nat → Nat → Nat → Nat → Nat → List (List Int) → List ByteArray → List (List Int) → (Nat × Int × Int × Int × Nat × Nat × Nat × Nat × Nat × Nat × Nat × Nat)) :
    b37l2 ih (0 : Int) (j : Int) be fr (m : Int) (r : Int) (n : Int) (i : Int) y0 y1 y2 y3 y4 y5 y6 y7 lw hh z0 z1 es nm ops =
     cond (r61 (Int.toNat ((w.getD j []).getD 0 0)) (Int.toNat ((w.getD j []).getD 1 0)) lw hh)
      (cond (decide (((r + 1 : Nat) : Int) > (m : Int))) (ih (0 : Int) (j : Int) ((i + 1 : Nat) : Int) ((i - r : Nat) : Int) ((r + 1 : Nat) : Int) ((r + 1 : Nat) : Int) (n : Int) ((i + 1 : Nat) : Int) (Eg a b n i) (Eg a b n (i + 1)) y2 y3 y4 y5 y6 y7 lw hh z0 z1 es nm ops) (ih (0 : Int) (j : Int) be fr (m : Int) ((r + 1 : Nat) : Int) (n : Int) ((i + 1 : Nat) : Int) (Eg a b n i) (Eg a b n (i + 1)) y2 y3 y4 y5 y6 y7 lw hh z0 z1 es nm ops))
      (ih (0 : Int) (j : Int) be fr (m : Int) 0 (n : Int) ((i + 1 : Nat) : Int) (Eg a b n i) (Eg a b n (i + 1)) y2 y3 y4 y5 y6 y7 lw hh z0 z1 es nm ops) := by
  unfold b37l2
  rw [wrap_succ (show i < 9223372036854775807 by omega), wrap_succ (show r < 9223372036854775807 by omega), dlt_t hi, dle0 i, dle0 (i + 1), Int.toNat_natCast i, Int.toNat_natCast (i + 1), blt_t (show i < es.length by omega), blt_t (show i + 1 < es.length by omega), he i (by omega), he (i + 1) (by omega)]
  dsimp only
  rw [hw]
  dsimp only
  rw [dle0 j, Int.toNat_natCast j, blt_t hj, wsubN (show r + 1 ≤ i + 1 by omega) (by omega), show i + 1 - (r + 1) = i - r by omega, decide_eq_false (show ¬ ((0 : Int) > ((m : Nat) : Int)) by omega)]
  rfl
theorem runs0 {l : List ByteArray} {o es : List (List Int)} (hr : RowsOk S3 o) (ho : o.length ≤ 1048576) (hl : l.length ≤ 1048576) (hv : r48 l o = (0, true)) {a b n j lw hh z0 z1 z2 z3 : Nat} (hn : n ≤ 64) (hj : j < l.length)
    (hes : es.length = n + 1) (he : ∀ i, i ≤ n → Int.toNat ((es.getD i []).getD 0 0) = Eg a b n i) : ∀ (k i fs fi m r bg bl bh y0 y1 y2 y3 y4 y5 y6 y7 : Nat) (be fr : Int), i + k = n → k < fs → k < fi → r ≤ i → (r = 0 ∨ bg = Eg a b n (i - r)) → (m = 0 ∨ ∃ f g : Nat, f ≤ n ∧ g ≤ n ∧ fr = (f : Int) ∧ be = (g : Int) ∧ bl = Eg a b n f ∧ bh = Eg a b n g) →
    Cpl a b n (r36l1 fs (0 : Int) (n : Int) (j : Int) (m : Int) (r : Int) bg (i : Int) y0 y1 y2 y3 y4 y5 y6 y7 lw hh z2 z3 a b bl bh l o) (r37l2 fi (0 : Int) (j : Int) be fr (m : Int) (r : Int) (n : Int) (i : Int) y0 y1 y2 y3 y4 y5 y6 y7 lw hh z0 z1 es l o) := by
  intro k
  induction k with
  | zero =>
    intro i fs fi m r bg bl bh y0 y1 y2 y3 y4 y5 y6 y7 be fr h hf1 hf2 hri hbg hb
    obtain ⟨u, rfl⟩ : ∃ m, fs = m + 1 := ⟨fs - 1, by omega⟩
    obtain ⟨u', rfl⟩ : ∃ m, fi = m + 1 := ⟨fi - 1, by omega⟩
    have e1 : r36l1 (u + 1) (0 : Int) (n : Int) (j : Int) (m : Int) (r : Int) bg (i : Int) y0 y1 y2 y3 y4 y5 y6 y7 lw hh z2 z3 a b bl bh l o = (0, (m : Int), y0, y1, y2, y3, y4, y5, y6, y7, bl, bh) := by
      show b36l1 (r36l1 u) _ _ _ _ _ _ _ _ _ _ _ _ _ _ _ _ _ _ _ _ _ _ _ _ _ = _
      unfold b36l1
      rw [dlt_f (show ¬ i < n by omega)]; rfl
    have e2 : r37l2 (u' + 1) (0 : Int) (j : Int) be fr (m : Int) (r : Int) (n : Int) (i : Int) y0 y1 y2 y3 y4 y5 y6 y7 lw hh z0 z1 es l o = (0, be, fr, (m : Int), y0, y1, y2, y3, y4, y5, y6, y7) := by
      show b37l2 (r37l2 u') _ _ _ _ _ _ _ _ _ _ _ _ _ _ _ _ _ _ _ _ _ _ _ = _
      unfold b37l2
      rw [dlt_f (show ¬ i < n by omega)]; rfl
    rw [e1, e2]
    exact ⟨rfl, rfl, m, rfl, rfl, hb⟩
  | succ k ih =>
    intro i fs fi m r bg bl bh y0 y1 y2 y3 y4 y5 y6 y7 be fr h hf1 hf2 hri hbg hb
    obtain ⟨u, rfl⟩ : ∃ m, fs = m + 1 := ⟨fs - 1, by omega⟩
    obtain ⟨u', rfl⟩ : ∃ m, fi = m + 1 := ⟨fi - 1, by omega⟩
    have hi : i < n := by omega
    obtain ⟨w, w0, w1, w2⟩ := run_both hr ho hl hv (Eg a b n i) (Eg a b n (i + 1)) y2 y3 y4 y5 y6 y7
    have w3 : r66 (Eg a b n i) (Eg a b n (i + 1)) y2 y3 y4 y5 y6 y7 l o = (0, w) := by unfold r66; rw [w2]; rfl
    show Cpl a b n (b36l1 (r36l1 u) _ _ _ _ _ _ _ _ _ _ _ _ _ _ _ _ _ _ _ _ _ _ _ _ _) (b37l2 (r37l2 u') _ _ _ _ _ _ _ _ _ _ _ _ _ _ _ _ _ _ _ _ _ _ _)
    rw [rdS0 hn hi hri (show j < w.length by omega) w1, rdI0 hn hi hri (show j < w.length by omega) hes he w3]
    cases r61 (Int.toNat ((w.getD j []).getD 0 0)) (Int.toNat ((w.getD j []).getD 1 0)) lw hh with
    | false => exact ih (i + 1) u u' m 0 bg bl bh (Eg a b n i) (Eg a b n (i + 1)) y2 y3 y4 y5 y6 y7 be fr (by omega) (by omega) (by omega) (by omega) (.inl rfl) hb
    | true =>
      rw [dgt]
      by_cases h0 : r = 0
      · subst h0
        by_cases hm : m < 0 + 1
        · rw [decide_eq_true hm]
          exact ih (i + 1) u u' (0 + 1) (0 + 1) (Eg a b n i) (Eg a b n i) (Eg a b n (i + 1)) (Eg a b n i) (Eg a b n (i + 1)) y2 y3 y4 y5 y6 y7 _ _ (by omega) (by omega) (by omega) (by omega) (.inr (by rw [show i + 1 - (0 + 1) = i by omega])) (.inr ⟨i, i + 1, by omega, by omega, rfl, rfl, rfl, rfl⟩)
        · rw [decide_eq_false hm]
          exact ih (i + 1) u u' m (0 + 1) (Eg a b n i) bl bh (Eg a b n i) (Eg a b n (i + 1)) y2 y3 y4 y5 y6 y7 _ _ (by omega) (by omega) (by omega) (by omega) (.inr (by rw [show i + 1 - (0 + 1) = i by omega])) hb
      · have hz : (((r : Nat) : Int) == 0) = false := by rw [beq_eq_false_iff_ne]; omega
        have hg : bg = Eg a b n (i - r) := hbg.resolve_left h0
        rw [hz]
        by_cases hm : m < r + 1
        · rw [decide_eq_true hm]
          exact ih (i + 1) u u' (r + 1) (r + 1) bg bg (Eg a b n (i + 1)) (Eg a b n i) (Eg a b n (i + 1)) y2 y3 y4 y5 y6 y7 _ _ (by omega) (by omega) (by omega) (by omega) (.inr (by rw [hg, show i + 1 - (r + 1) = i - r by omega])) (.inr ⟨i - r, i + 1, by omega, by omega, rfl, rfl, hg, rfl⟩)
        · rw [decide_eq_false hm]
          exact ih (i + 1) u u' m (r + 1) bg bl bh (Eg a b n i) (Eg a b n (i + 1)) y2 y3 y4 y5 y6 y7 _ _ (by omega) (by omega) (by omega) (by omega) (.inr (by rw [hg, show i + 1 - (r + 1) = i - r by omega])) hb
theorem rdS1 {a b n i j m r bg bl bh lw hh z2 z3 y0 y1 y2 y3 y4 y5 y6 y7 : Nat} {nm : List ByteArray} {ops w : List (List Int)} (hn : n ≤ 64) (hi : i < n) (hr : r ≤ i) (hj : j < w.length)
    (hw : r62 y0 y1 (Eg a b n i) (Eg a b n (i + 1)) y4 y5 y6 y7 nm ops = (0, w)) (ih : Int → Int → Int → Int → Int → Nat → Int → Nat → Nat → Nat → Nat → Nat → Nat → Nat → Nat → Nat → Nat → Nat → Nat → Nat → Nat → Nat → Nat → List ByteArray → List (List Int) → (Nat × Int × Nat × Nat × Nat × Nat × Nat × Nat × Nat × Nat × Nat × Nat)) :
    b36l1 ih (1 : Int) (n : Int) (j : Int) (m : Int) (r : Int) bg (i : Int) y0 y1 y2 y3 y4 y5 y6 y7 lw hh z2 z3 a b bl bh nm ops =
     cond (!(r61 (Int.toNat ((w.getD j []).getD 0 0)) (Int.toNat ((w.getD j []).getD 1 0)) lw hh)) (ih (1 : Int) (n : Int) (j : Int) (m : Int) 0 bg ((i + 1 : Nat) : Int) y0 y1 (Eg a b n i) (Eg a b n (i + 1)) y4 y5 y6 y7 lw hh z2 z3 a b bl bh nm ops)
      (cond ((r : Int) == 0)
       (cond (decide (((r + 1 : Nat) : Int) > (m : Int))) (ih (1 : Int) (n : Int) (j : Int) ((r + 1 : Nat) : Int) ((r + 1 : Nat) : Int) (Eg a b n i) ((i + 1 : Nat) : Int) y0 y1 (Eg a b n i) (Eg a b n (i + 1)) y4 y5 y6 y7 lw hh z2 z3 a b (Eg a b n i) (Eg a b n (i + 1)) nm ops) (ih (1 : Int) (n : Int) (j : Int) (m : Int) ((r + 1 : Nat) : Int) (Eg a b n i) ((i + 1 : Nat) : Int) y0 y1 (Eg a b n i) (Eg a b n (i + 1)) y4 y5 y6 y7 lw hh z2 z3 a b bl bh nm ops))
       (cond (decide (((r + 1 : Nat) : Int) > (m : Int))) (ih (1 : Int) (n : Int) (j : Int) ((r + 1 : Nat) : Int) ((r + 1 : Nat) : Int) bg ((i + 1 : Nat) : Int) y0 y1 (Eg a b n i) (Eg a b n (i + 1)) y4 y5 y6 y7 lw hh z2 z3 a b bg (Eg a b n (i + 1)) nm ops) (ih (1 : Int) (n : Int) (j : Int) (m : Int) ((r + 1 : Nat) : Int) bg ((i + 1 : Nat) : Int) y0 y1 (Eg a b n i) (Eg a b n (i + 1)) y4 y5 y6 y7 lw hh z2 z3 a b bl bh nm ops))) := by
  unfold b36l1
  rw [cut_eq hi hn, dlt_t hi, wrap_succ (show i < 9223372036854775807 by omega), wrap_succ (show r < 9223372036854775807 by omega)]
  dsimp only
  rw [hw]
  dsimp only
  rw [dle0 j, Int.toNat_natCast j, blt_t hj]
  rfl
theorem rdI1 {a b n i j m r lw hh z0 z1 y0 y1 y2 y3 y4 y5 y6 y7 : Nat} {be fr : Int} {nm : List ByteArray} {ops w es : List (List Int)} (hn : n ≤ 64) (hi : i < n) (hr : r ≤ i) (hj : j < w.length)
    (hl : es.length = n + 1) (he : ∀ i, i ≤ n → Int.toNat ((es.getD i []).getD 0 0) = Eg a b n i) (hw : r66 y0 y1 (Eg a b n i) (Eg a b n (i + 1)) y4 y5 y6 y7 nm ops = (0, w)) (ih : Int → Int → Int → Int → Int → Int → Int → Int → Nat → Nat → Nat → Nat → Nat → Nat → Nat → Nat → Nat → Nat → Nat → Nat → List (List Int) → List ByteArray → List (List Int) → (Nat × Int × Int × Int × Nat × Nat × Nat × Nat × Nat × Nat × Nat × Nat)) :
    b37l2 ih (1 : Int) (j : Int) be fr (m : Int) (r : Int) (n : Int) (i : Int) y0 y1 y2 y3 y4 y5 y6 y7 lw hh z0 z1 es nm ops =
     cond (r61 (Int.toNat ((w.getD j []).getD 0 0)) (Int.toNat ((w.getD j []).getD 1 0)) lw hh)
      (cond (decide (((r + 1 : Nat) : Int) > (m : Int))) (ih (1 : Int) (j : Int) ((i + 1 : Nat) : Int) ((i - r : Nat) : Int) ((r + 1 : Nat) : Int) ((r + 1 : Nat) : Int) (n : Int) ((i + 1 : Nat) : Int) y0 y1 (Eg a b n i) (Eg a b n (i + 1)) y4 y5 y6 y7 lw hh z0 z1 es nm ops) (ih (1 : Int) (j : Int) be fr (m : Int) ((r + 1 : Nat) : Int) (n : Int) ((i + 1 : Nat) : Int) y0 y1 (Eg a b n i) (Eg a b n (i + 1)) y4 y5 y6 y7 lw hh z0 z1 es nm ops))
      (ih (1 : Int) (j : Int) be fr (m : Int) 0 (n : Int) ((i + 1 : Nat) : Int) y0 y1 (Eg a b n i) (Eg a b n (i + 1)) y4 y5 y6 y7 lw hh z0 z1 es nm ops) := by
  unfold b37l2
  rw [wrap_succ (show i < 9223372036854775807 by omega), wrap_succ (show r < 9223372036854775807 by omega), dlt_t hi, dle0 i, dle0 (i + 1), Int.toNat_natCast i, Int.toNat_natCast (i + 1), blt_t (show i < es.length by omega), blt_t (show i + 1 < es.length by omega), he i (by omega), he (i + 1) (by omega)]
  dsimp only
  rw [hw]
  dsimp only
  rw [dle0 j, Int.toNat_natCast j, blt_t hj, wsubN (show r + 1 ≤ i + 1 by omega) (by omega), show i + 1 - (r + 1) = i - r by omega, decide_eq_false (show ¬ ((0 : Int) > ((m : Nat) : Int)) by omega)]
  rfl
theorem runs1 {l : List ByteArray} {o es : List (List Int)} (hr : RowsOk S3 o) (ho : o.length ≤ 1048576) (hl : l.length ≤ 1048576) (hv : r48 l o = (0, true)) {a b n j lw hh z0 z1 z2 z3 : Nat} (hn : n ≤ 64) (hj : j < l.length)
    (hes : es.length = n + 1) (he : ∀ i, i ≤ n → Int.toNat ((es.getD i []).getD 0 0) = Eg a b n i) : ∀ (k i fs fi m r bg bl bh y0 y1 y2 y3 y4 y5 y6 y7 : Nat) (be fr : Int), i + k = n → k < fs → k < fi → r ≤ i → (r = 0 ∨ bg = Eg a b n (i - r)) → (m = 0 ∨ ∃ f g : Nat, f ≤ n ∧ g ≤ n ∧ fr = (f : Int) ∧ be = (g : Int) ∧ bl = Eg a b n f ∧ bh = Eg a b n g) →
    Cpl a b n (r36l1 fs (1 : Int) (n : Int) (j : Int) (m : Int) (r : Int) bg (i : Int) y0 y1 y2 y3 y4 y5 y6 y7 lw hh z2 z3 a b bl bh l o) (r37l2 fi (1 : Int) (j : Int) be fr (m : Int) (r : Int) (n : Int) (i : Int) y0 y1 y2 y3 y4 y5 y6 y7 lw hh z0 z1 es l o) := by
  intro k
  induction k with
  | zero =>
    intro i fs fi m r bg bl bh y0 y1 y2 y3 y4 y5 y6 y7 be fr h hf1 hf2 hri hbg hb
    obtain ⟨u, rfl⟩ : ∃ m, fs = m + 1 := ⟨fs - 1, by omega⟩
    obtain ⟨u', rfl⟩ : ∃ m, fi = m + 1 := ⟨fi - 1, by omega⟩
    have e1 : r36l1 (u + 1) (1 : Int) (n : Int) (j : Int) (m : Int) (r : Int) bg (i : Int) y0 y1 y2 y3 y4 y5 y6 y7 lw hh z2 z3 a b bl bh l o = (0, (m : Int), y0, y1, y2, y3, y4, y5, y6, y7, bl, bh) := by
      show b36l1 (r36l1 u) _ _ _ _ _ _ _ _ _ _ _ _ _ _ _ _ _ _ _ _ _ _ _ _ _ = _
      unfold b36l1
      rw [dlt_f (show ¬ i < n by omega)]; rfl
    have e2 : r37l2 (u' + 1) (1 : Int) (j : Int) be fr (m : Int) (r : Int) (n : Int) (i : Int) y0 y1 y2 y3 y4 y5 y6 y7 lw hh z0 z1 es l o = (0, be, fr, (m : Int), y0, y1, y2, y3, y4, y5, y6, y7) := by
      show b37l2 (r37l2 u') _ _ _ _ _ _ _ _ _ _ _ _ _ _ _ _ _ _ _ _ _ _ _ = _
      unfold b37l2
      rw [dlt_f (show ¬ i < n by omega)]; rfl
    rw [e1, e2]
    exact ⟨rfl, rfl, m, rfl, rfl, hb⟩
  | succ k ih =>
    intro i fs fi m r bg bl bh y0 y1 y2 y3 y4 y5 y6 y7 be fr h hf1 hf2 hri hbg hb
    obtain ⟨u, rfl⟩ : ∃ m, fs = m + 1 := ⟨fs - 1, by omega⟩
    obtain ⟨u', rfl⟩ : ∃ m, fi = m + 1 := ⟨fi - 1, by omega⟩
    have hi : i < n := by omega
    obtain ⟨w, w0, w1, w2⟩ := run_both hr ho hl hv y0 y1 (Eg a b n i) (Eg a b n (i + 1)) y4 y5 y6 y7
    have w3 : r66 y0 y1 (Eg a b n i) (Eg a b n (i + 1)) y4 y5 y6 y7 l o = (0, w) := by unfold r66; rw [w2]; rfl
    show Cpl a b n (b36l1 (r36l1 u) _ _ _ _ _ _ _ _ _ _ _ _ _ _ _ _ _ _ _ _ _ _ _ _ _) (b37l2 (r37l2 u') _ _ _ _ _ _ _ _ _ _ _ _ _ _ _ _ _ _ _ _ _ _ _)
    rw [rdS1 hn hi hri (show j < w.length by omega) w1, rdI1 hn hi hri (show j < w.length by omega) hes he w3]
    cases r61 (Int.toNat ((w.getD j []).getD 0 0)) (Int.toNat ((w.getD j []).getD 1 0)) lw hh with
    | false => exact ih (i + 1) u u' m 0 bg bl bh y0 y1 (Eg a b n i) (Eg a b n (i + 1)) y4 y5 y6 y7 be fr (by omega) (by omega) (by omega) (by omega) (.inl rfl) hb
    | true =>
      rw [dgt]
      by_cases h0 : r = 0
      · subst h0
        by_cases hm : m < 0 + 1
        · rw [decide_eq_true hm]
          exact ih (i + 1) u u' (0 + 1) (0 + 1) (Eg a b n i) (Eg a b n i) (Eg a b n (i + 1)) y0 y1 (Eg a b n i) (Eg a b n (i + 1)) y4 y5 y6 y7 _ _ (by omega) (by omega) (by omega) (by omega) (.inr (by rw [show i + 1 - (0 + 1) = i by omega])) (.inr ⟨i, i + 1, by omega, by omega, rfl, rfl, rfl, rfl⟩)
        · rw [decide_eq_false hm]
          exact ih (i + 1) u u' m (0 + 1) (Eg a b n i) bl bh y0 y1 (Eg a b n i) (Eg a b n (i + 1)) y4 y5 y6 y7 _ _ (by omega) (by omega) (by omega) (by omega) (.inr (by rw [show i + 1 - (0 + 1) = i by omega])) hb
      · have hz : (((r : Nat) : Int) == 0) = false := by rw [beq_eq_false_iff_ne]; omega
        have hg : bg = Eg a b n (i - r) := hbg.resolve_left h0
        rw [hz]
        by_cases hm : m < r + 1
        · rw [decide_eq_true hm]
          exact ih (i + 1) u u' (r + 1) (r + 1) bg bg (Eg a b n (i + 1)) y0 y1 (Eg a b n i) (Eg a b n (i + 1)) y4 y5 y6 y7 _ _ (by omega) (by omega) (by omega) (by omega) (.inr (by rw [hg, show i + 1 - (r + 1) = i - r by omega])) (.inr ⟨i - r, i + 1, by omega, by omega, rfl, rfl, hg, rfl⟩)
        · rw [decide_eq_false hm]
          exact ih (i + 1) u u' m (r + 1) bg bl bh y0 y1 (Eg a b n i) (Eg a b n (i + 1)) y4 y5 y6 y7 _ _ (by omega) (by omega) (by omega) (by omega) (.inr (by rw [hg, show i + 1 - (r + 1) = i - r by omega])) hb
theorem rdS2 {a b n i j m r bg bl bh lw hh z2 z3 y0 y1 y2 y3 y4 y5 y6 y7 : Nat} {nm : List ByteArray} {ops w : List (List Int)} (hn : n ≤ 64) (hi : i < n) (hr : r ≤ i) (hj : j < w.length)
    (hw : r62 y0 y1 y2 y3 (Eg a b n i) (Eg a b n (i + 1)) y6 y7 nm ops = (0, w)) (ih : Int → Int → Int → Int → Int → Nat → Int → Nat → Nat → Nat → Nat → Nat → Nat → Nat → Nat → Nat → Nat → Nat → Nat → Nat → Nat → Nat → Nat → List ByteArray → List (List Int) → (Nat × Int × Nat × Nat × Nat × Nat × Nat × Nat × Nat × Nat × Nat × Nat)) :
    b36l1 ih (2 : Int) (n : Int) (j : Int) (m : Int) (r : Int) bg (i : Int) y0 y1 y2 y3 y4 y5 y6 y7 lw hh z2 z3 a b bl bh nm ops =
     cond (!(r61 (Int.toNat ((w.getD j []).getD 0 0)) (Int.toNat ((w.getD j []).getD 1 0)) lw hh)) (ih (2 : Int) (n : Int) (j : Int) (m : Int) 0 bg ((i + 1 : Nat) : Int) y0 y1 y2 y3 (Eg a b n i) (Eg a b n (i + 1)) y6 y7 lw hh z2 z3 a b bl bh nm ops)
      (cond ((r : Int) == 0)
       (cond (decide (((r + 1 : Nat) : Int) > (m : Int))) (ih (2 : Int) (n : Int) (j : Int) ((r + 1 : Nat) : Int) ((r + 1 : Nat) : Int) (Eg a b n i) ((i + 1 : Nat) : Int) y0 y1 y2 y3 (Eg a b n i) (Eg a b n (i + 1)) y6 y7 lw hh z2 z3 a b (Eg a b n i) (Eg a b n (i + 1)) nm ops) (ih (2 : Int) (n : Int) (j : Int) (m : Int) ((r + 1 : Nat) : Int) (Eg a b n i) ((i + 1 : Nat) : Int) y0 y1 y2 y3 (Eg a b n i) (Eg a b n (i + 1)) y6 y7 lw hh z2 z3 a b bl bh nm ops))
       (cond (decide (((r + 1 : Nat) : Int) > (m : Int))) (ih (2 : Int) (n : Int) (j : Int) ((r + 1 : Nat) : Int) ((r + 1 : Nat) : Int) bg ((i + 1 : Nat) : Int) y0 y1 y2 y3 (Eg a b n i) (Eg a b n (i + 1)) y6 y7 lw hh z2 z3 a b bg (Eg a b n (i + 1)) nm ops) (ih (2 : Int) (n : Int) (j : Int) (m : Int) ((r + 1 : Nat) : Int) bg ((i + 1 : Nat) : Int) y0 y1 y2 y3 (Eg a b n i) (Eg a b n (i + 1)) y6 y7 lw hh z2 z3 a b bl bh nm ops))) := by
  unfold b36l1
  rw [cut_eq hi hn, dlt_t hi, wrap_succ (show i < 9223372036854775807 by omega), wrap_succ (show r < 9223372036854775807 by omega)]
  dsimp only
  rw [hw]
  dsimp only
  rw [dle0 j, Int.toNat_natCast j, blt_t hj]
  rfl
theorem rdI2 {a b n i j m r lw hh z0 z1 y0 y1 y2 y3 y4 y5 y6 y7 : Nat} {be fr : Int} {nm : List ByteArray} {ops w es : List (List Int)} (hn : n ≤ 64) (hi : i < n) (hr : r ≤ i) (hj : j < w.length)
    (hl : es.length = n + 1) (he : ∀ i, i ≤ n → Int.toNat ((es.getD i []).getD 0 0) = Eg a b n i) (hw : r66 y0 y1 y2 y3 (Eg a b n i) (Eg a b n (i + 1)) y6 y7 nm ops = (0, w)) (ih : Int → Int → Int → Int → Int → Int → Int → Int → Nat → Nat → Nat → Nat → Nat → Nat → Nat → Nat → Nat → Nat → Nat → Nat → List (List Int) → List ByteArray → List (List Int) → (Nat × Int × Int × Int × Nat × Nat × Nat × Nat × Nat × Nat × Nat × Nat)) :
    b37l2 ih (2 : Int) (j : Int) be fr (m : Int) (r : Int) (n : Int) (i : Int) y0 y1 y2 y3 y4 y5 y6 y7 lw hh z0 z1 es nm ops =
     cond (r61 (Int.toNat ((w.getD j []).getD 0 0)) (Int.toNat ((w.getD j []).getD 1 0)) lw hh)
      (cond (decide (((r + 1 : Nat) : Int) > (m : Int))) (ih (2 : Int) (j : Int) ((i + 1 : Nat) : Int) ((i - r : Nat) : Int) ((r + 1 : Nat) : Int) ((r + 1 : Nat) : Int) (n : Int) ((i + 1 : Nat) : Int) y0 y1 y2 y3 (Eg a b n i) (Eg a b n (i + 1)) y6 y7 lw hh z0 z1 es nm ops) (ih (2 : Int) (j : Int) be fr (m : Int) ((r + 1 : Nat) : Int) (n : Int) ((i + 1 : Nat) : Int) y0 y1 y2 y3 (Eg a b n i) (Eg a b n (i + 1)) y6 y7 lw hh z0 z1 es nm ops))
      (ih (2 : Int) (j : Int) be fr (m : Int) 0 (n : Int) ((i + 1 : Nat) : Int) y0 y1 y2 y3 (Eg a b n i) (Eg a b n (i + 1)) y6 y7 lw hh z0 z1 es nm ops) := by
  unfold b37l2
  rw [wrap_succ (show i < 9223372036854775807 by omega), wrap_succ (show r < 9223372036854775807 by omega), dlt_t hi, dle0 i, dle0 (i + 1), Int.toNat_natCast i, Int.toNat_natCast (i + 1), blt_t (show i < es.length by omega), blt_t (show i + 1 < es.length by omega), he i (by omega), he (i + 1) (by omega)]
  dsimp only
  rw [hw]
  dsimp only
  rw [dle0 j, Int.toNat_natCast j, blt_t hj, wsubN (show r + 1 ≤ i + 1 by omega) (by omega), show i + 1 - (r + 1) = i - r by omega, decide_eq_false (show ¬ ((0 : Int) > ((m : Nat) : Int)) by omega)]
  rfl
theorem runs2 {l : List ByteArray} {o es : List (List Int)} (hr : RowsOk S3 o) (ho : o.length ≤ 1048576) (hl : l.length ≤ 1048576) (hv : r48 l o = (0, true)) {a b n j lw hh z0 z1 z2 z3 : Nat} (hn : n ≤ 64) (hj : j < l.length)
    (hes : es.length = n + 1) (he : ∀ i, i ≤ n → Int.toNat ((es.getD i []).getD 0 0) = Eg a b n i) : ∀ (k i fs fi m r bg bl bh y0 y1 y2 y3 y4 y5 y6 y7 : Nat) (be fr : Int), i + k = n → k < fs → k < fi → r ≤ i → (r = 0 ∨ bg = Eg a b n (i - r)) → (m = 0 ∨ ∃ f g : Nat, f ≤ n ∧ g ≤ n ∧ fr = (f : Int) ∧ be = (g : Int) ∧ bl = Eg a b n f ∧ bh = Eg a b n g) →
    Cpl a b n (r36l1 fs (2 : Int) (n : Int) (j : Int) (m : Int) (r : Int) bg (i : Int) y0 y1 y2 y3 y4 y5 y6 y7 lw hh z2 z3 a b bl bh l o) (r37l2 fi (2 : Int) (j : Int) be fr (m : Int) (r : Int) (n : Int) (i : Int) y0 y1 y2 y3 y4 y5 y6 y7 lw hh z0 z1 es l o) := by
  intro k
  induction k with
  | zero =>
    intro i fs fi m r bg bl bh y0 y1 y2 y3 y4 y5 y6 y7 be fr h hf1 hf2 hri hbg hb
    obtain ⟨u, rfl⟩ : ∃ m, fs = m + 1 := ⟨fs - 1, by omega⟩
    obtain ⟨u', rfl⟩ : ∃ m, fi = m + 1 := ⟨fi - 1, by omega⟩
    have e1 : r36l1 (u + 1) (2 : Int) (n : Int) (j : Int) (m : Int) (r : Int) bg (i : Int) y0 y1 y2 y3 y4 y5 y6 y7 lw hh z2 z3 a b bl bh l o = (0, (m : Int), y0, y1, y2, y3, y4, y5, y6, y7, bl, bh) := by
      show b36l1 (r36l1 u) _ _ _ _ _ _ _ _ _ _ _ _ _ _ _ _ _ _ _ _ _ _ _ _ _ = _
      unfold b36l1
      rw [dlt_f (show ¬ i < n by omega)]; rfl
    have e2 : r37l2 (u' + 1) (2 : Int) (j : Int) be fr (m : Int) (r : Int) (n : Int) (i : Int) y0 y1 y2 y3 y4 y5 y6 y7 lw hh z0 z1 es l o = (0, be, fr, (m : Int), y0, y1, y2, y3, y4, y5, y6, y7) := by
      show b37l2 (r37l2 u') _ _ _ _ _ _ _ _ _ _ _ _ _ _ _ _ _ _ _ _ _ _ _ = _
      unfold b37l2
      rw [dlt_f (show ¬ i < n by omega)]; rfl
    rw [e1, e2]
    exact ⟨rfl, rfl, m, rfl, rfl, hb⟩
  | succ k ih =>
    intro i fs fi m r bg bl bh y0 y1 y2 y3 y4 y5 y6 y7 be fr h hf1 hf2 hri hbg hb
    obtain ⟨u, rfl⟩ : ∃ m, fs = m + 1 := ⟨fs - 1, by omega⟩
    obtain ⟨u', rfl⟩ : ∃ m, fi = m + 1 := ⟨fi - 1, by omega⟩
    have hi : i < n := by omega
    obtain ⟨w, w0, w1, w2⟩ := run_both hr ho hl hv y0 y1 y2 y3 (Eg a b n i) (Eg a b n (i + 1)) y6 y7
    have w3 : r66 y0 y1 y2 y3 (Eg a b n i) (Eg a b n (i + 1)) y6 y7 l o = (0, w) := by unfold r66; rw [w2]; rfl
    show Cpl a b n (b36l1 (r36l1 u) _ _ _ _ _ _ _ _ _ _ _ _ _ _ _ _ _ _ _ _ _ _ _ _ _) (b37l2 (r37l2 u') _ _ _ _ _ _ _ _ _ _ _ _ _ _ _ _ _ _ _ _ _ _ _)
    rw [rdS2 hn hi hri (show j < w.length by omega) w1, rdI2 hn hi hri (show j < w.length by omega) hes he w3]
    cases r61 (Int.toNat ((w.getD j []).getD 0 0)) (Int.toNat ((w.getD j []).getD 1 0)) lw hh with
    | false => exact ih (i + 1) u u' m 0 bg bl bh y0 y1 y2 y3 (Eg a b n i) (Eg a b n (i + 1)) y6 y7 be fr (by omega) (by omega) (by omega) (by omega) (.inl rfl) hb
    | true =>
      rw [dgt]
      by_cases h0 : r = 0
      · subst h0
        by_cases hm : m < 0 + 1
        · rw [decide_eq_true hm]
          exact ih (i + 1) u u' (0 + 1) (0 + 1) (Eg a b n i) (Eg a b n i) (Eg a b n (i + 1)) y0 y1 y2 y3 (Eg a b n i) (Eg a b n (i + 1)) y6 y7 _ _ (by omega) (by omega) (by omega) (by omega) (.inr (by rw [show i + 1 - (0 + 1) = i by omega])) (.inr ⟨i, i + 1, by omega, by omega, rfl, rfl, rfl, rfl⟩)
        · rw [decide_eq_false hm]
          exact ih (i + 1) u u' m (0 + 1) (Eg a b n i) bl bh y0 y1 y2 y3 (Eg a b n i) (Eg a b n (i + 1)) y6 y7 _ _ (by omega) (by omega) (by omega) (by omega) (.inr (by rw [show i + 1 - (0 + 1) = i by omega])) hb
      · have hz : (((r : Nat) : Int) == 0) = false := by rw [beq_eq_false_iff_ne]; omega
        have hg : bg = Eg a b n (i - r) := hbg.resolve_left h0
        rw [hz]
        by_cases hm : m < r + 1
        · rw [decide_eq_true hm]
          exact ih (i + 1) u u' (r + 1) (r + 1) bg bg (Eg a b n (i + 1)) y0 y1 y2 y3 (Eg a b n i) (Eg a b n (i + 1)) y6 y7 _ _ (by omega) (by omega) (by omega) (by omega) (.inr (by rw [hg, show i + 1 - (r + 1) = i - r by omega])) (.inr ⟨i - r, i + 1, by omega, by omega, rfl, rfl, hg, rfl⟩)
        · rw [decide_eq_false hm]
          exact ih (i + 1) u u' m (r + 1) bg bl bh y0 y1 y2 y3 (Eg a b n i) (Eg a b n (i + 1)) y6 y7 _ _ (by omega) (by omega) (by omega) (by omega) (.inr (by rw [hg, show i + 1 - (r + 1) = i - r by omega])) hb
theorem rdS3 {a b n i j m r bg bl bh lw hh z2 z3 y0 y1 y2 y3 y4 y5 y6 y7 : Nat} {nm : List ByteArray} {ops w : List (List Int)} (hn : n ≤ 64) (hi : i < n) (hr : r ≤ i) (hj : j < w.length)
    (hw : r62 y0 y1 y2 y3 y4 y5 (Eg a b n i) (Eg a b n (i + 1)) nm ops = (0, w)) (ih : Int → Int → Int → Int → Int → Nat → Int → Nat → Nat → Nat → Nat → Nat → Nat → Nat → Nat → Nat → Nat → Nat → Nat → Nat → Nat → Nat → Nat → List ByteArray → List (List Int) → (Nat × Int × Nat × Nat × Nat × Nat × Nat × Nat × Nat × Nat × Nat × Nat)) :
    b36l1 ih (3 : Int) (n : Int) (j : Int) (m : Int) (r : Int) bg (i : Int) y0 y1 y2 y3 y4 y5 y6 y7 lw hh z2 z3 a b bl bh nm ops =
     cond (!(r61 (Int.toNat ((w.getD j []).getD 0 0)) (Int.toNat ((w.getD j []).getD 1 0)) lw hh)) (ih (3 : Int) (n : Int) (j : Int) (m : Int) 0 bg ((i + 1 : Nat) : Int) y0 y1 y2 y3 y4 y5 (Eg a b n i) (Eg a b n (i + 1)) lw hh z2 z3 a b bl bh nm ops)
      (cond ((r : Int) == 0)
       (cond (decide (((r + 1 : Nat) : Int) > (m : Int))) (ih (3 : Int) (n : Int) (j : Int) ((r + 1 : Nat) : Int) ((r + 1 : Nat) : Int) (Eg a b n i) ((i + 1 : Nat) : Int) y0 y1 y2 y3 y4 y5 (Eg a b n i) (Eg a b n (i + 1)) lw hh z2 z3 a b (Eg a b n i) (Eg a b n (i + 1)) nm ops) (ih (3 : Int) (n : Int) (j : Int) (m : Int) ((r + 1 : Nat) : Int) (Eg a b n i) ((i + 1 : Nat) : Int) y0 y1 y2 y3 y4 y5 (Eg a b n i) (Eg a b n (i + 1)) lw hh z2 z3 a b bl bh nm ops))
       (cond (decide (((r + 1 : Nat) : Int) > (m : Int))) (ih (3 : Int) (n : Int) (j : Int) ((r + 1 : Nat) : Int) ((r + 1 : Nat) : Int) bg ((i + 1 : Nat) : Int) y0 y1 y2 y3 y4 y5 (Eg a b n i) (Eg a b n (i + 1)) lw hh z2 z3 a b bg (Eg a b n (i + 1)) nm ops) (ih (3 : Int) (n : Int) (j : Int) (m : Int) ((r + 1 : Nat) : Int) bg ((i + 1 : Nat) : Int) y0 y1 y2 y3 y4 y5 (Eg a b n i) (Eg a b n (i + 1)) lw hh z2 z3 a b bl bh nm ops))) := by
  unfold b36l1
  rw [cut_eq hi hn, dlt_t hi, wrap_succ (show i < 9223372036854775807 by omega), wrap_succ (show r < 9223372036854775807 by omega)]
  dsimp only
  rw [hw]
  dsimp only
  rw [dle0 j, Int.toNat_natCast j, blt_t hj]
  rfl
theorem rdI3 {a b n i j m r lw hh z0 z1 y0 y1 y2 y3 y4 y5 y6 y7 : Nat} {be fr : Int} {nm : List ByteArray} {ops w es : List (List Int)} (hn : n ≤ 64) (hi : i < n) (hr : r ≤ i) (hj : j < w.length)
    (hl : es.length = n + 1) (he : ∀ i, i ≤ n → Int.toNat ((es.getD i []).getD 0 0) = Eg a b n i) (hw : r66 y0 y1 y2 y3 y4 y5 (Eg a b n i) (Eg a b n (i + 1)) nm ops = (0, w)) (ih : Int → Int → Int → Int → Int → Int → Int → Int → Nat → Nat → Nat → Nat → Nat → Nat → Nat → Nat → Nat → Nat → Nat → Nat → List (List Int) → List ByteArray → List (List Int) → (Nat × Int × Int × Int × Nat × Nat × Nat × Nat × Nat × Nat × Nat × Nat)) :
    b37l2 ih (3 : Int) (j : Int) be fr (m : Int) (r : Int) (n : Int) (i : Int) y0 y1 y2 y3 y4 y5 y6 y7 lw hh z0 z1 es nm ops =
     cond (r61 (Int.toNat ((w.getD j []).getD 0 0)) (Int.toNat ((w.getD j []).getD 1 0)) lw hh)
      (cond (decide (((r + 1 : Nat) : Int) > (m : Int))) (ih (3 : Int) (j : Int) ((i + 1 : Nat) : Int) ((i - r : Nat) : Int) ((r + 1 : Nat) : Int) ((r + 1 : Nat) : Int) (n : Int) ((i + 1 : Nat) : Int) y0 y1 y2 y3 y4 y5 (Eg a b n i) (Eg a b n (i + 1)) lw hh z0 z1 es nm ops) (ih (3 : Int) (j : Int) be fr (m : Int) ((r + 1 : Nat) : Int) (n : Int) ((i + 1 : Nat) : Int) y0 y1 y2 y3 y4 y5 (Eg a b n i) (Eg a b n (i + 1)) lw hh z0 z1 es nm ops))
      (ih (3 : Int) (j : Int) be fr (m : Int) 0 (n : Int) ((i + 1 : Nat) : Int) y0 y1 y2 y3 y4 y5 (Eg a b n i) (Eg a b n (i + 1)) lw hh z0 z1 es nm ops) := by
  unfold b37l2
  rw [wrap_succ (show i < 9223372036854775807 by omega), wrap_succ (show r < 9223372036854775807 by omega), dlt_t hi, dle0 i, dle0 (i + 1), Int.toNat_natCast i, Int.toNat_natCast (i + 1), blt_t (show i < es.length by omega), blt_t (show i + 1 < es.length by omega), he i (by omega), he (i + 1) (by omega)]
  dsimp only
  rw [hw]
  dsimp only
  rw [dle0 j, Int.toNat_natCast j, blt_t hj, wsubN (show r + 1 ≤ i + 1 by omega) (by omega), show i + 1 - (r + 1) = i - r by omega, decide_eq_false (show ¬ ((0 : Int) > ((m : Nat) : Int)) by omega)]
  rfl
theorem runs3 {l : List ByteArray} {o es : List (List Int)} (hr : RowsOk S3 o) (ho : o.length ≤ 1048576) (hl : l.length ≤ 1048576) (hv : r48 l o = (0, true)) {a b n j lw hh z0 z1 z2 z3 : Nat} (hn : n ≤ 64) (hj : j < l.length)
    (hes : es.length = n + 1) (he : ∀ i, i ≤ n → Int.toNat ((es.getD i []).getD 0 0) = Eg a b n i) : ∀ (k i fs fi m r bg bl bh y0 y1 y2 y3 y4 y5 y6 y7 : Nat) (be fr : Int), i + k = n → k < fs → k < fi → r ≤ i → (r = 0 ∨ bg = Eg a b n (i - r)) → (m = 0 ∨ ∃ f g : Nat, f ≤ n ∧ g ≤ n ∧ fr = (f : Int) ∧ be = (g : Int) ∧ bl = Eg a b n f ∧ bh = Eg a b n g) →
    Cpl a b n (r36l1 fs (3 : Int) (n : Int) (j : Int) (m : Int) (r : Int) bg (i : Int) y0 y1 y2 y3 y4 y5 y6 y7 lw hh z2 z3 a b bl bh l o) (r37l2 fi (3 : Int) (j : Int) be fr (m : Int) (r : Int) (n : Int) (i : Int) y0 y1 y2 y3 y4 y5 y6 y7 lw hh z0 z1 es l o) := by
  intro k
  induction k with
  | zero =>
    intro i fs fi m r bg bl bh y0 y1 y2 y3 y4 y5 y6 y7 be fr h hf1 hf2 hri hbg hb
    obtain ⟨u, rfl⟩ : ∃ m, fs = m + 1 := ⟨fs - 1, by omega⟩
    obtain ⟨u', rfl⟩ : ∃ m, fi = m + 1 := ⟨fi - 1, by omega⟩
    have e1 : r36l1 (u + 1) (3 : Int) (n : Int) (j : Int) (m : Int) (r : Int) bg (i : Int) y0 y1 y2 y3 y4 y5 y6 y7 lw hh z2 z3 a b bl bh l o = (0, (m : Int), y0, y1, y2, y3, y4, y5, y6, y7, bl, bh) := by
      show b36l1 (r36l1 u) _ _ _ _ _ _ _ _ _ _ _ _ _ _ _ _ _ _ _ _ _ _ _ _ _ = _
      unfold b36l1
      rw [dlt_f (show ¬ i < n by omega)]; rfl
    have e2 : r37l2 (u' + 1) (3 : Int) (j : Int) be fr (m : Int) (r : Int) (n : Int) (i : Int) y0 y1 y2 y3 y4 y5 y6 y7 lw hh z0 z1 es l o = (0, be, fr, (m : Int), y0, y1, y2, y3, y4, y5, y6, y7) := by
      show b37l2 (r37l2 u') _ _ _ _ _ _ _ _ _ _ _ _ _ _ _ _ _ _ _ _ _ _ _ = _
      unfold b37l2
      rw [dlt_f (show ¬ i < n by omega)]; rfl
    rw [e1, e2]
    exact ⟨rfl, rfl, m, rfl, rfl, hb⟩
  | succ k ih =>
    intro i fs fi m r bg bl bh y0 y1 y2 y3 y4 y5 y6 y7 be fr h hf1 hf2 hri hbg hb
    obtain ⟨u, rfl⟩ : ∃ m, fs = m + 1 := ⟨fs - 1, by omega⟩
    obtain ⟨u', rfl⟩ : ∃ m, fi = m + 1 := ⟨fi - 1, by omega⟩
    have hi : i < n := by omega
    obtain ⟨w, w0, w1, w2⟩ := run_both hr ho hl hv y0 y1 y2 y3 y4 y5 (Eg a b n i) (Eg a b n (i + 1))
    have w3 : r66 y0 y1 y2 y3 y4 y5 (Eg a b n i) (Eg a b n (i + 1)) l o = (0, w) := by unfold r66; rw [w2]; rfl
    show Cpl a b n (b36l1 (r36l1 u) _ _ _ _ _ _ _ _ _ _ _ _ _ _ _ _ _ _ _ _ _ _ _ _ _) (b37l2 (r37l2 u') _ _ _ _ _ _ _ _ _ _ _ _ _ _ _ _ _ _ _ _ _ _ _)
    rw [rdS3 hn hi hri (show j < w.length by omega) w1, rdI3 hn hi hri (show j < w.length by omega) hes he w3]
    cases r61 (Int.toNat ((w.getD j []).getD 0 0)) (Int.toNat ((w.getD j []).getD 1 0)) lw hh with
    | false => exact ih (i + 1) u u' m 0 bg bl bh y0 y1 y2 y3 y4 y5 (Eg a b n i) (Eg a b n (i + 1)) be fr (by omega) (by omega) (by omega) (by omega) (.inl rfl) hb
    | true =>
      rw [dgt]
      by_cases h0 : r = 0
      · subst h0
        by_cases hm : m < 0 + 1
        · rw [decide_eq_true hm]
          exact ih (i + 1) u u' (0 + 1) (0 + 1) (Eg a b n i) (Eg a b n i) (Eg a b n (i + 1)) y0 y1 y2 y3 y4 y5 (Eg a b n i) (Eg a b n (i + 1)) _ _ (by omega) (by omega) (by omega) (by omega) (.inr (by rw [show i + 1 - (0 + 1) = i by omega])) (.inr ⟨i, i + 1, by omega, by omega, rfl, rfl, rfl, rfl⟩)
        · rw [decide_eq_false hm]
          exact ih (i + 1) u u' m (0 + 1) (Eg a b n i) bl bh y0 y1 y2 y3 y4 y5 (Eg a b n i) (Eg a b n (i + 1)) _ _ (by omega) (by omega) (by omega) (by omega) (.inr (by rw [show i + 1 - (0 + 1) = i by omega])) hb
      · have hz : (((r : Nat) : Int) == 0) = false := by rw [beq_eq_false_iff_ne]; omega
        have hg : bg = Eg a b n (i - r) := hbg.resolve_left h0
        rw [hz]
        by_cases hm : m < r + 1
        · rw [decide_eq_true hm]
          exact ih (i + 1) u u' (r + 1) (r + 1) bg bg (Eg a b n (i + 1)) y0 y1 y2 y3 y4 y5 (Eg a b n i) (Eg a b n (i + 1)) _ _ (by omega) (by omega) (by omega) (by omega) (.inr (by rw [hg, show i + 1 - (r + 1) = i - r by omega])) (.inr ⟨i - r, i + 1, by omega, by omega, rfl, rfl, hg, rfl⟩)
        · rw [decide_eq_false hm]
          exact ih (i + 1) u u' m (r + 1) bg bl bh y0 y1 y2 y3 y4 y5 (Eg a b n i) (Eg a b n (i + 1)) _ _ (by omega) (by omega) (by omega) (by omega) (.inr (by rw [hg, show i + 1 - (r + 1) = i - r by omega])) hb

def ansS (S : Nat × Int × Nat × Nat × Nat × Nat × Nat × Nat × Nat × Nat × Nat × Nat) : Nat × Nat × Nat × Int := cond (Nat.beq S.1 0) (cond (S.2.1 == 0) (0, 0, 0, 6) (0, S.2.2.2.2.2.2.2.2.2.2.1, S.2.2.2.2.2.2.2.2.2.2.2, 0)) (1, 0, 0, 0)
def ansI (T : List (List Int)) (P : Nat × Int × Int × Int × Nat × Nat × Nat × Nat × Nat × Nat × Nat × Nat) : Nat × Nat × Nat × Int := cond (Nat.beq P.1 0) (cond (P.2.2.2.1 == 0) (0, 0, 0, 6) (cond (decide ((0 : Int) ≤ P.2.2.1) && Nat.blt (Int.toNat P.2.2.1) T.length) (cond (decide ((0 : Int) ≤ P.2.1) && Nat.blt (Int.toNat P.2.1) T.length) (0, Int.toNat ((T.getD (Int.toNat P.2.2.1) []).getD 0 0), Int.toNat ((T.getD (Int.toNat P.2.1) []).getD 0 0), 0) (1, 0, 0, 0)) (1, 0, 0, 0))) (1, 0, 0, 0)
theorem span_self (a b : Nat) : r38 a b a b = true := by
  unfold r38; rw [float_self, float_self]; rfl
theorem narrow_fin {a b n : Nat} {S : Nat × Int × Nat × Nat × Nat × Nat × Nat × Nat × Nat × Nat × Nat × Nat} {P : Nat × Int × Int × Int × Nat × Nat × Nat × Nat × Nat × Nat × Nat × Nat} (h : Cpl a b n S P) :
    ∃ y z c, ansS S = (0, y, z, c) ∧ ansI (esOf a b n (n + 1)) P = (0, y, z, c) := by
  obtain ⟨h1, h2, m, h3, h4, h5⟩ := h
  unfold ansS ansI
  rw [h1, h2, h3, h4]
  by_cases hm : m = 0
  · subst hm; exact ⟨0, 0, 6, rfl, rfl⟩
  · obtain ⟨f, g, hf, hg, e1, e2, e3, e4⟩ := h5.resolve_left hm
    have hz : (((m : Nat) : Int) == 0) = false := by rw [beq_eq_false_iff_ne]; omega
    rw [hz, e1, e2, e3, e4, dle0, dle0, Int.toNat_natCast, Int.toNat_natCast, esOf_len, blt_t (show f < n + 1 by omega), blt_t (show g < n + 1 by omega), esOf_at (show f < n + 1 by omega), esOf_at (show g < n + 1 by omega)]
    exact ⟨_, _, _, rfl, rfl⟩
set_option simprocs false in
theorem narrow0 {x0 x1 x2 x3 x4 x5 x6 x7 x10 x11 n : Nat} {x9 : ByteArray} {x13 : List ByteArray} {x14 : List (List Int)} (hr : RowsOk S3 x14) (ho : x14.length ≤ 1048576) (hl : x13.length ≤ 1048576) (hv : r48 x13 x14 = (0, true)) (hv' : r16 x13 x14 = (0, true)) (hg : r60 x10 x11 x0 x1 x2 x3 x4 x5 x6 x7 x13 x14 = (0, 0)) (h63 : r63 x10 x11 = true) (h64 : r64 x0 x1 x2 x3 x4 x5 x6 x7 = true) (hn : n ≤ 64) (hn1 : 1 ≤ n) :
    ∃ y z c, r36 x0 x1 x2 x3 x4 x5 x6 x7 (0 : Int) x9 x10 x11 (n : Int) x13 x14 = (0, y, z, c) ∧ r37 x0 x1 x2 x3 x4 x5 x6 x7 (0 : Int) x9 x10 x11 (n : Int) x13 x14 = (0, y, z, c) := by
  have k1 : r68 (0 : Int) 0 3 = true := by decide
  have k2 : r68 ((n : Nat) : Int) 1 64 = true := by
    unfold r68
    rw [decide_eq_true (show ((n : Nat) : Int) ≥ 1 by omega), decide_eq_true (show ((n : Nat) : Int) ≤ 64 by omega)]; rfl
  have k3 : decide (((n : Nat) : Int) < 1) = false := decide_eq_false (by omega)
  have k4 : decide (((n : Nat) : Int) > 64) = false := decide_eq_false (by omega)
  rcases find_both hl x9 with ⟨f1, f2⟩ | ⟨j, f0, f1, f2⟩
  · refine ⟨0, 0, 6, ?_, ?_⟩
    · unfold r36; rw [hg, k1, k2, f1]; rfl
    · unfold r37; rw [hv', h63, h64, k3, k4, f2]; rfl
  · have kj : decide (((j : Nat) : Int) < 0) = false := decide_eq_false (by omega)
    have e36 : r36 x0 x1 x2 x3 x4 x5 x6 x7 (0 : Int) x9 x10 x11 (n : Int) x13 x14 = cond (Nat.beq (r36l0 (1000 + x14.length + x13.length) (0 : Int) (n : Int) (j : Int) 0 x0 x1 x2 x3 x4 x5 x6 x7 x10 x11 0 0 x0 x1 x13 x14) 0) (0, 0, 0, 4) (cond (Nat.beq (r36l0 (1000 + x14.length + x13.length) (0 : Int) (n : Int) (j : Int) 0 x0 x1 x2 x3 x4 x5 x6 x7 x10 x11 0 0 x0 x1 x13 x14) 1) (ansS (r36l1 (1000 + x14.length + x13.length) (0 : Int) (n : Int) (j : Int) 0 0 0 0 x0 x1 x2 x3 x4 x5 x6 x7 x10 x11 0 0 x0 x1 0 0 x13 x14)) (1, 0, 0, 0)) := by
      unfold r36
      rw [hg, k1, k2, f1]
      dsimp only
      rw [kj]
      rfl
    have L0 : r37l0 (1000 + x14.length + x13.length + 0) (0 : Int) (n : Int) (j : Int) (n : Int) 0 x0 x1 x2 x3 x4 x5 x6 x7 x10 x11 0 0 x0 x1 [] x13 x14 = (0, esOf x0 x1 n n) := by
      have := ends_loop (a := x0) (b := x1) hn (x0 := (0 : Int)) (x2 := (j : Int)) (x5 := x0) (x6 := x1) (x7 := x2) (x8 := x3) (x9 := x4) (x10 := x5) (x11 := x6) (x12 := x7) (x13 := x10) (x14 := x11) (x15 := 0) (x16 := 0) (x20 := x13) (x21 := x14) n 0 (1000 + x14.length + x13.length + 0) (by omega) (by omega)
      refine this.trans ?_
      obtain ⟨n', rfl⟩ : ∃ n', n = n' + 1 := ⟨n - 1, by omega⟩
      rfl
    have hT : ((esOf x0 x1 n n).drop 0).take (esOf x0 x1 n n).length ++ ([[((x1 : Nat) : Int)]] : List (List Int)) = esOf x0 x1 n (n + 1) := by
      rw [tk, esOf_succ, Eg_ge (show ¬ n < n by omega)]
    have e37 : r37 x0 x1 x2 x3 x4 x5 x6 x7 (0 : Int) x9 x10 x11 (n : Int) x13 x14 = cond (Nat.beq (r37l1 ((1000 + x14.length + x13.length) + (esOf x0 x1 n (n + 1)).length) (0 : Int) (n : Int) (j : Int) (n : Int) 0 x0 x1 x2 x3 x4 x5 x6 x7 x10 x11 0 0 (esOf x0 x1 n (n + 1)) x13 x14) 0) (0, 0, 0, 4) (cond (Nat.beq (r37l1 ((1000 + x14.length + x13.length) + (esOf x0 x1 n (n + 1)).length) (0 : Int) (n : Int) (j : Int) (n : Int) 0 x0 x1 x2 x3 x4 x5 x6 x7 x10 x11 0 0 (esOf x0 x1 n (n + 1)) x13 x14) 1) (ansI (esOf x0 x1 n (n + 1)) (r37l2 ((1000 + x14.length + x13.length) + (esOf x0 x1 n (n + 1)).length) (0 : Int) (j : Int) 0 0 0 0 (n : Int) 0 x0 x1 x2 x3 x4 x5 x6 x7 x10 x11 0 0 (esOf x0 x1 n (n + 1)) x13 x14)) (1, 0, 0, 0)) := by
      unfold r37
      rw [hv', h63, h64, k3, k4, f2]
      dsimp only
      rw [kj, L0]
      dsimp only
      rw [hT, esOf_len x0 x1 n n, ble_t (show (n + 1) * 5 ≤ 140737488355328 by omega)]
      rfl
    have hc := check_loop (a := x0) (b := x1) hn (esOf_len x0 x1 n (n + 1)) (fun i hi => esOf_at (show i < n + 1 by omega)) (x0 := (0 : Int)) (x2 := (j : Int)) (y4 := x0) (y5 := x1) (y6 := x2) (y7 := x3) (y8 := x4) (y9 := x5) (y10 := x6) (y11 := x7) (y12 := x10) (y13 := x11) (y14 := 0) (y15 := 0) (x5 := x0) (x6 := x1) (x7 := x2) (x8 := x3) (x9 := x4) (x10 := x5) (x11 := x6) (x12 := x7) (x13 := x10) (x14 := x11) (x15 := 0) (x16 := 0) (nm := x13) (ops := x14) n 0 (1000 + x14.length + x13.length) ((1000 + x14.length + x13.length) + (esOf x0 x1 n (n + 1)).length) (by omega) (by omega) (by omega)
    obtain ⟨p, c1, c2⟩ := hc
    have c1' : r36l0 (1000 + x14.length + x13.length) (0 : Int) (n : Int) (j : Int) 0 x0 x1 x2 x3 x4 x5 x6 x7 x10 x11 0 0 x0 x1 x13 x14 = cond p 1 0 := c1
    have c2' : r37l1 ((1000 + x14.length + x13.length) + (esOf x0 x1 n (n + 1)).length) (0 : Int) (n : Int) (j : Int) (n : Int) 0 x0 x1 x2 x3 x4 x5 x6 x7 x10 x11 0 0 (esOf x0 x1 n (n + 1)) x13 x14 = cond p 1 0 := c2
    rw [e36, e37, c1', c2']
    cases p with
    | false => exact ⟨_, _, _, rfl, rfl⟩
    | true =>
      have hR := runs0 hr ho hl hv (a := x0) (b := x1) (lw := x10) (hh := x11) (z0 := 0) (z1 := 0) (z2 := 0) (z3 := 0) hn f0 (esOf_len x0 x1 n (n + 1)) (fun i hi => esOf_at (show i < n + 1 by omega)) n 0 (1000 + x14.length + x13.length) ((1000 + x14.length + x13.length) + (esOf x0 x1 n (n + 1)).length) 0 0 0 0 0 x0 x1 x2 x3 x4 x5 x6 x7 0 0 (by omega) (by omega) (by omega) (by omega) (.inl rfl) (.inl rfl)
      exact narrow_fin hR

set_option simprocs false in
theorem narrow1 {x0 x1 x2 x3 x4 x5 x6 x7 x10 x11 n : Nat} {x9 : ByteArray} {x13 : List ByteArray} {x14 : List (List Int)} (hr : RowsOk S3 x14) (ho : x14.length ≤ 1048576) (hl : x13.length ≤ 1048576) (hv : r48 x13 x14 = (0, true)) (hv' : r16 x13 x14 = (0, true)) (hg : r60 x10 x11 x0 x1 x2 x3 x4 x5 x6 x7 x13 x14 = (0, 0)) (h63 : r63 x10 x11 = true) (h64 : r64 x0 x1 x2 x3 x4 x5 x6 x7 = true) (hn : n ≤ 64) (hn1 : 1 ≤ n) :
    ∃ y z c, r36 x0 x1 x2 x3 x4 x5 x6 x7 (1 : Int) x9 x10 x11 (n : Int) x13 x14 = (0, y, z, c) ∧ r37 x0 x1 x2 x3 x4 x5 x6 x7 (1 : Int) x9 x10 x11 (n : Int) x13 x14 = (0, y, z, c) := by
  have k1 : r68 (1 : Int) 0 3 = true := by decide
  have k2 : r68 ((n : Nat) : Int) 1 64 = true := by
    unfold r68
    rw [decide_eq_true (show ((n : Nat) : Int) ≥ 1 by omega), decide_eq_true (show ((n : Nat) : Int) ≤ 64 by omega)]; rfl
  have k3 : decide (((n : Nat) : Int) < 1) = false := decide_eq_false (by omega)
  have k4 : decide (((n : Nat) : Int) > 64) = false := decide_eq_false (by omega)
  rcases find_both hl x9 with ⟨f1, f2⟩ | ⟨j, f0, f1, f2⟩
  · refine ⟨0, 0, 6, ?_, ?_⟩
    · unfold r36; rw [hg, k1, k2, f1]; rfl
    · unfold r37; rw [hv', h63, h64, k3, k4, f2]; rfl
  · have kj : decide (((j : Nat) : Int) < 0) = false := decide_eq_false (by omega)
    have e36 : r36 x0 x1 x2 x3 x4 x5 x6 x7 (1 : Int) x9 x10 x11 (n : Int) x13 x14 = cond (Nat.beq (r36l0 (1000 + x14.length + x13.length) (1 : Int) (n : Int) (j : Int) 0 x0 x1 x2 x3 x4 x5 x6 x7 x10 x11 0 0 x2 x3 x13 x14) 0) (0, 0, 0, 4) (cond (Nat.beq (r36l0 (1000 + x14.length + x13.length) (1 : Int) (n : Int) (j : Int) 0 x0 x1 x2 x3 x4 x5 x6 x7 x10 x11 0 0 x2 x3 x13 x14) 1) (ansS (r36l1 (1000 + x14.length + x13.length) (1 : Int) (n : Int) (j : Int) 0 0 0 0 x0 x1 x2 x3 x4 x5 x6 x7 x10 x11 0 0 x2 x3 0 0 x13 x14)) (1, 0, 0, 0)) := by
      unfold r36
      rw [hg, k1, k2, f1]
      dsimp only
      rw [kj]
      rfl
    have L0 : r37l0 (1000 + x14.length + x13.length + 0) (1 : Int) (n : Int) (j : Int) (n : Int) 0 x0 x1 x2 x3 x4 x5 x6 x7 x10 x11 0 0 x2 x3 [] x13 x14 = (0, esOf x2 x3 n n) := by
      have := ends_loop (a := x2) (b := x3) hn (x0 := (1 : Int)) (x2 := (j : Int)) (x5 := x0) (x6 := x1) (x7 := x2) (x8 := x3) (x9 := x4) (x10 := x5) (x11 := x6) (x12 := x7) (x13 := x10) (x14 := x11) (x15 := 0) (x16 := 0) (x20 := x13) (x21 := x14) n 0 (1000 + x14.length + x13.length + 0) (by omega) (by omega)
      refine this.trans ?_
      obtain ⟨n', rfl⟩ : ∃ n', n = n' + 1 := ⟨n - 1, by omega⟩
      rfl
    have hT : ((esOf x2 x3 n n).drop 0).take (esOf x2 x3 n n).length ++ ([[((x3 : Nat) : Int)]] : List (List Int)) = esOf x2 x3 n (n + 1) := by
      rw [tk, esOf_succ, Eg_ge (show ¬ n < n by omega)]
    have e37 : r37 x0 x1 x2 x3 x4 x5 x6 x7 (1 : Int) x9 x10 x11 (n : Int) x13 x14 = cond (Nat.beq (r37l1 ((1000 + x14.length + x13.length) + (esOf x2 x3 n (n + 1)).length) (1 : Int) (n : Int) (j : Int) (n : Int) 0 x0 x1 x2 x3 x4 x5 x6 x7 x10 x11 0 0 (esOf x2 x3 n (n + 1)) x13 x14) 0) (0, 0, 0, 4) (cond (Nat.beq (r37l1 ((1000 + x14.length + x13.length) + (esOf x2 x3 n (n + 1)).length) (1 : Int) (n : Int) (j : Int) (n : Int) 0 x0 x1 x2 x3 x4 x5 x6 x7 x10 x11 0 0 (esOf x2 x3 n (n + 1)) x13 x14) 1) (ansI (esOf x2 x3 n (n + 1)) (r37l2 ((1000 + x14.length + x13.length) + (esOf x2 x3 n (n + 1)).length) (1 : Int) (j : Int) 0 0 0 0 (n : Int) 0 x0 x1 x2 x3 x4 x5 x6 x7 x10 x11 0 0 (esOf x2 x3 n (n + 1)) x13 x14)) (1, 0, 0, 0)) := by
      unfold r37
      rw [hv', h63, h64, k3, k4, f2]
      dsimp only
      rw [kj, L0]
      dsimp only
      rw [hT, esOf_len x2 x3 n n, ble_t (show (n + 1) * 5 ≤ 140737488355328 by omega)]
      rfl
    have hc := check_loop (a := x2) (b := x3) hn (esOf_len x2 x3 n (n + 1)) (fun i hi => esOf_at (show i < n + 1 by omega)) (x0 := (1 : Int)) (x2 := (j : Int)) (y4 := x0) (y5 := x1) (y6 := x2) (y7 := x3) (y8 := x4) (y9 := x5) (y10 := x6) (y11 := x7) (y12 := x10) (y13 := x11) (y14 := 0) (y15 := 0) (x5 := x0) (x6 := x1) (x7 := x2) (x8 := x3) (x9 := x4) (x10 := x5) (x11 := x6) (x12 := x7) (x13 := x10) (x14 := x11) (x15 := 0) (x16 := 0) (nm := x13) (ops := x14) n 0 (1000 + x14.length + x13.length) ((1000 + x14.length + x13.length) + (esOf x2 x3 n (n + 1)).length) (by omega) (by omega) (by omega)
    obtain ⟨p, c1, c2⟩ := hc
    have c1' : r36l0 (1000 + x14.length + x13.length) (1 : Int) (n : Int) (j : Int) 0 x0 x1 x2 x3 x4 x5 x6 x7 x10 x11 0 0 x2 x3 x13 x14 = cond p 1 0 := c1
    have c2' : r37l1 ((1000 + x14.length + x13.length) + (esOf x2 x3 n (n + 1)).length) (1 : Int) (n : Int) (j : Int) (n : Int) 0 x0 x1 x2 x3 x4 x5 x6 x7 x10 x11 0 0 (esOf x2 x3 n (n + 1)) x13 x14 = cond p 1 0 := c2
    rw [e36, e37, c1', c2']
    cases p with
    | false => exact ⟨_, _, _, rfl, rfl⟩
    | true =>
      have hR := runs1 hr ho hl hv (a := x2) (b := x3) (lw := x10) (hh := x11) (z0 := 0) (z1 := 0) (z2 := 0) (z3 := 0) hn f0 (esOf_len x2 x3 n (n + 1)) (fun i hi => esOf_at (show i < n + 1 by omega)) n 0 (1000 + x14.length + x13.length) ((1000 + x14.length + x13.length) + (esOf x2 x3 n (n + 1)).length) 0 0 0 0 0 x0 x1 x2 x3 x4 x5 x6 x7 0 0 (by omega) (by omega) (by omega) (by omega) (.inl rfl) (.inl rfl)
      exact narrow_fin hR

set_option simprocs false in
theorem narrow2 {x0 x1 x2 x3 x4 x5 x6 x7 x10 x11 n : Nat} {x9 : ByteArray} {x13 : List ByteArray} {x14 : List (List Int)} (hr : RowsOk S3 x14) (ho : x14.length ≤ 1048576) (hl : x13.length ≤ 1048576) (hv : r48 x13 x14 = (0, true)) (hv' : r16 x13 x14 = (0, true)) (hg : r60 x10 x11 x0 x1 x2 x3 x4 x5 x6 x7 x13 x14 = (0, 0)) (h63 : r63 x10 x11 = true) (h64 : r64 x0 x1 x2 x3 x4 x5 x6 x7 = true) (hn : n ≤ 64) (hn1 : 1 ≤ n) :
    ∃ y z c, r36 x0 x1 x2 x3 x4 x5 x6 x7 (2 : Int) x9 x10 x11 (n : Int) x13 x14 = (0, y, z, c) ∧ r37 x0 x1 x2 x3 x4 x5 x6 x7 (2 : Int) x9 x10 x11 (n : Int) x13 x14 = (0, y, z, c) := by
  have k1 : r68 (2 : Int) 0 3 = true := by decide
  have k2 : r68 ((n : Nat) : Int) 1 64 = true := by
    unfold r68
    rw [decide_eq_true (show ((n : Nat) : Int) ≥ 1 by omega), decide_eq_true (show ((n : Nat) : Int) ≤ 64 by omega)]; rfl
  have k3 : decide (((n : Nat) : Int) < 1) = false := decide_eq_false (by omega)
  have k4 : decide (((n : Nat) : Int) > 64) = false := decide_eq_false (by omega)
  rcases find_both hl x9 with ⟨f1, f2⟩ | ⟨j, f0, f1, f2⟩
  · refine ⟨0, 0, 6, ?_, ?_⟩
    · unfold r36; rw [hg, k1, k2, f1]; rfl
    · unfold r37; rw [hv', h63, h64, k3, k4, f2]; rfl
  · have kj : decide (((j : Nat) : Int) < 0) = false := decide_eq_false (by omega)
    have e36 : r36 x0 x1 x2 x3 x4 x5 x6 x7 (2 : Int) x9 x10 x11 (n : Int) x13 x14 = cond (Nat.beq (r36l0 (1000 + x14.length + x13.length) (2 : Int) (n : Int) (j : Int) 0 x0 x1 x2 x3 x4 x5 x6 x7 x10 x11 0 0 x4 x5 x13 x14) 0) (0, 0, 0, 4) (cond (Nat.beq (r36l0 (1000 + x14.length + x13.length) (2 : Int) (n : Int) (j : Int) 0 x0 x1 x2 x3 x4 x5 x6 x7 x10 x11 0 0 x4 x5 x13 x14) 1) (ansS (r36l1 (1000 + x14.length + x13.length) (2 : Int) (n : Int) (j : Int) 0 0 0 0 x0 x1 x2 x3 x4 x5 x6 x7 x10 x11 0 0 x4 x5 0 0 x13 x14)) (1, 0, 0, 0)) := by
      unfold r36
      rw [hg, k1, k2, f1]
      dsimp only
      rw [kj]
      rfl
    have L0 : r37l0 (1000 + x14.length + x13.length + 0) (2 : Int) (n : Int) (j : Int) (n : Int) 0 x0 x1 x2 x3 x4 x5 x6 x7 x10 x11 0 0 x4 x5 [] x13 x14 = (0, esOf x4 x5 n n) := by
      have := ends_loop (a := x4) (b := x5) hn (x0 := (2 : Int)) (x2 := (j : Int)) (x5 := x0) (x6 := x1) (x7 := x2) (x8 := x3) (x9 := x4) (x10 := x5) (x11 := x6) (x12 := x7) (x13 := x10) (x14 := x11) (x15 := 0) (x16 := 0) (x20 := x13) (x21 := x14) n 0 (1000 + x14.length + x13.length + 0) (by omega) (by omega)
      refine this.trans ?_
      obtain ⟨n', rfl⟩ : ∃ n', n = n' + 1 := ⟨n - 1, by omega⟩
      rfl
    have hT : ((esOf x4 x5 n n).drop 0).take (esOf x4 x5 n n).length ++ ([[((x5 : Nat) : Int)]] : List (List Int)) = esOf x4 x5 n (n + 1) := by
      rw [tk, esOf_succ, Eg_ge (show ¬ n < n by omega)]
    have e37 : r37 x0 x1 x2 x3 x4 x5 x6 x7 (2 : Int) x9 x10 x11 (n : Int) x13 x14 = cond (Nat.beq (r37l1 ((1000 + x14.length + x13.length) + (esOf x4 x5 n (n + 1)).length) (2 : Int) (n : Int) (j : Int) (n : Int) 0 x0 x1 x2 x3 x4 x5 x6 x7 x10 x11 0 0 (esOf x4 x5 n (n + 1)) x13 x14) 0) (0, 0, 0, 4) (cond (Nat.beq (r37l1 ((1000 + x14.length + x13.length) + (esOf x4 x5 n (n + 1)).length) (2 : Int) (n : Int) (j : Int) (n : Int) 0 x0 x1 x2 x3 x4 x5 x6 x7 x10 x11 0 0 (esOf x4 x5 n (n + 1)) x13 x14) 1) (ansI (esOf x4 x5 n (n + 1)) (r37l2 ((1000 + x14.length + x13.length) + (esOf x4 x5 n (n + 1)).length) (2 : Int) (j : Int) 0 0 0 0 (n : Int) 0 x0 x1 x2 x3 x4 x5 x6 x7 x10 x11 0 0 (esOf x4 x5 n (n + 1)) x13 x14)) (1, 0, 0, 0)) := by
      unfold r37
      rw [hv', h63, h64, k3, k4, f2]
      dsimp only
      rw [kj, L0]
      dsimp only
      rw [hT, esOf_len x4 x5 n n, ble_t (show (n + 1) * 5 ≤ 140737488355328 by omega)]
      rfl
    have hc := check_loop (a := x4) (b := x5) hn (esOf_len x4 x5 n (n + 1)) (fun i hi => esOf_at (show i < n + 1 by omega)) (x0 := (2 : Int)) (x2 := (j : Int)) (y4 := x0) (y5 := x1) (y6 := x2) (y7 := x3) (y8 := x4) (y9 := x5) (y10 := x6) (y11 := x7) (y12 := x10) (y13 := x11) (y14 := 0) (y15 := 0) (x5 := x0) (x6 := x1) (x7 := x2) (x8 := x3) (x9 := x4) (x10 := x5) (x11 := x6) (x12 := x7) (x13 := x10) (x14 := x11) (x15 := 0) (x16 := 0) (nm := x13) (ops := x14) n 0 (1000 + x14.length + x13.length) ((1000 + x14.length + x13.length) + (esOf x4 x5 n (n + 1)).length) (by omega) (by omega) (by omega)
    obtain ⟨p, c1, c2⟩ := hc
    have c1' : r36l0 (1000 + x14.length + x13.length) (2 : Int) (n : Int) (j : Int) 0 x0 x1 x2 x3 x4 x5 x6 x7 x10 x11 0 0 x4 x5 x13 x14 = cond p 1 0 := c1
    have c2' : r37l1 ((1000 + x14.length + x13.length) + (esOf x4 x5 n (n + 1)).length) (2 : Int) (n : Int) (j : Int) (n : Int) 0 x0 x1 x2 x3 x4 x5 x6 x7 x10 x11 0 0 (esOf x4 x5 n (n + 1)) x13 x14 = cond p 1 0 := c2
    rw [e36, e37, c1', c2']
    cases p with
    | false => exact ⟨_, _, _, rfl, rfl⟩
    | true =>
      have hR := runs2 hr ho hl hv (a := x4) (b := x5) (lw := x10) (hh := x11) (z0 := 0) (z1 := 0) (z2 := 0) (z3 := 0) hn f0 (esOf_len x4 x5 n (n + 1)) (fun i hi => esOf_at (show i < n + 1 by omega)) n 0 (1000 + x14.length + x13.length) ((1000 + x14.length + x13.length) + (esOf x4 x5 n (n + 1)).length) 0 0 0 0 0 x0 x1 x2 x3 x4 x5 x6 x7 0 0 (by omega) (by omega) (by omega) (by omega) (.inl rfl) (.inl rfl)
      exact narrow_fin hR

set_option simprocs false in
theorem narrow3 {x0 x1 x2 x3 x4 x5 x6 x7 x10 x11 n : Nat} {x9 : ByteArray} {x13 : List ByteArray} {x14 : List (List Int)} (hr : RowsOk S3 x14) (ho : x14.length ≤ 1048576) (hl : x13.length ≤ 1048576) (hv : r48 x13 x14 = (0, true)) (hv' : r16 x13 x14 = (0, true)) (hg : r60 x10 x11 x0 x1 x2 x3 x4 x5 x6 x7 x13 x14 = (0, 0)) (h63 : r63 x10 x11 = true) (h64 : r64 x0 x1 x2 x3 x4 x5 x6 x7 = true) (hn : n ≤ 64) (hn1 : 1 ≤ n) :
    ∃ y z c, r36 x0 x1 x2 x3 x4 x5 x6 x7 (3 : Int) x9 x10 x11 (n : Int) x13 x14 = (0, y, z, c) ∧ r37 x0 x1 x2 x3 x4 x5 x6 x7 (3 : Int) x9 x10 x11 (n : Int) x13 x14 = (0, y, z, c) := by
  have k1 : r68 (3 : Int) 0 3 = true := by decide
  have k2 : r68 ((n : Nat) : Int) 1 64 = true := by
    unfold r68
    rw [decide_eq_true (show ((n : Nat) : Int) ≥ 1 by omega), decide_eq_true (show ((n : Nat) : Int) ≤ 64 by omega)]; rfl
  have k3 : decide (((n : Nat) : Int) < 1) = false := decide_eq_false (by omega)
  have k4 : decide (((n : Nat) : Int) > 64) = false := decide_eq_false (by omega)
  rcases find_both hl x9 with ⟨f1, f2⟩ | ⟨j, f0, f1, f2⟩
  · refine ⟨0, 0, 6, ?_, ?_⟩
    · unfold r36; rw [hg, k1, k2, f1]; rfl
    · unfold r37; rw [hv', h63, h64, k3, k4, f2]; rfl
  · have kj : decide (((j : Nat) : Int) < 0) = false := decide_eq_false (by omega)
    have e36 : r36 x0 x1 x2 x3 x4 x5 x6 x7 (3 : Int) x9 x10 x11 (n : Int) x13 x14 = cond (Nat.beq (r36l0 (1000 + x14.length + x13.length) (3 : Int) (n : Int) (j : Int) 0 x0 x1 x2 x3 x4 x5 x6 x7 x10 x11 0 0 x6 x7 x13 x14) 0) (0, 0, 0, 4) (cond (Nat.beq (r36l0 (1000 + x14.length + x13.length) (3 : Int) (n : Int) (j : Int) 0 x0 x1 x2 x3 x4 x5 x6 x7 x10 x11 0 0 x6 x7 x13 x14) 1) (ansS (r36l1 (1000 + x14.length + x13.length) (3 : Int) (n : Int) (j : Int) 0 0 0 0 x0 x1 x2 x3 x4 x5 x6 x7 x10 x11 0 0 x6 x7 0 0 x13 x14)) (1, 0, 0, 0)) := by
      unfold r36
      rw [hg, k1, k2, f1]
      dsimp only
      rw [kj]
      rfl
    have L0 : r37l0 (1000 + x14.length + x13.length + 0) (3 : Int) (n : Int) (j : Int) (n : Int) 0 x0 x1 x2 x3 x4 x5 x6 x7 x10 x11 0 0 x6 x7 [] x13 x14 = (0, esOf x6 x7 n n) := by
      have := ends_loop (a := x6) (b := x7) hn (x0 := (3 : Int)) (x2 := (j : Int)) (x5 := x0) (x6 := x1) (x7 := x2) (x8 := x3) (x9 := x4) (x10 := x5) (x11 := x6) (x12 := x7) (x13 := x10) (x14 := x11) (x15 := 0) (x16 := 0) (x20 := x13) (x21 := x14) n 0 (1000 + x14.length + x13.length + 0) (by omega) (by omega)
      refine this.trans ?_
      obtain ⟨n', rfl⟩ : ∃ n', n = n' + 1 := ⟨n - 1, by omega⟩
      rfl
    have hT : ((esOf x6 x7 n n).drop 0).take (esOf x6 x7 n n).length ++ ([[((x7 : Nat) : Int)]] : List (List Int)) = esOf x6 x7 n (n + 1) := by
      rw [tk, esOf_succ, Eg_ge (show ¬ n < n by omega)]
    have e37 : r37 x0 x1 x2 x3 x4 x5 x6 x7 (3 : Int) x9 x10 x11 (n : Int) x13 x14 = cond (Nat.beq (r37l1 ((1000 + x14.length + x13.length) + (esOf x6 x7 n (n + 1)).length) (3 : Int) (n : Int) (j : Int) (n : Int) 0 x0 x1 x2 x3 x4 x5 x6 x7 x10 x11 0 0 (esOf x6 x7 n (n + 1)) x13 x14) 0) (0, 0, 0, 4) (cond (Nat.beq (r37l1 ((1000 + x14.length + x13.length) + (esOf x6 x7 n (n + 1)).length) (3 : Int) (n : Int) (j : Int) (n : Int) 0 x0 x1 x2 x3 x4 x5 x6 x7 x10 x11 0 0 (esOf x6 x7 n (n + 1)) x13 x14) 1) (ansI (esOf x6 x7 n (n + 1)) (r37l2 ((1000 + x14.length + x13.length) + (esOf x6 x7 n (n + 1)).length) (3 : Int) (j : Int) 0 0 0 0 (n : Int) 0 x0 x1 x2 x3 x4 x5 x6 x7 x10 x11 0 0 (esOf x6 x7 n (n + 1)) x13 x14)) (1, 0, 0, 0)) := by
      unfold r37
      rw [hv', h63, h64, k3, k4, f2]
      dsimp only
      rw [kj, L0]
      dsimp only
      rw [hT, esOf_len x6 x7 n n, ble_t (show (n + 1) * 5 ≤ 140737488355328 by omega)]
      rfl
    have hc := check_loop (a := x6) (b := x7) hn (esOf_len x6 x7 n (n + 1)) (fun i hi => esOf_at (show i < n + 1 by omega)) (x0 := (3 : Int)) (x2 := (j : Int)) (y4 := x0) (y5 := x1) (y6 := x2) (y7 := x3) (y8 := x4) (y9 := x5) (y10 := x6) (y11 := x7) (y12 := x10) (y13 := x11) (y14 := 0) (y15 := 0) (x5 := x0) (x6 := x1) (x7 := x2) (x8 := x3) (x9 := x4) (x10 := x5) (x11 := x6) (x12 := x7) (x13 := x10) (x14 := x11) (x15 := 0) (x16 := 0) (nm := x13) (ops := x14) n 0 (1000 + x14.length + x13.length) ((1000 + x14.length + x13.length) + (esOf x6 x7 n (n + 1)).length) (by omega) (by omega) (by omega)
    obtain ⟨p, c1, c2⟩ := hc
    have c1' : r36l0 (1000 + x14.length + x13.length) (3 : Int) (n : Int) (j : Int) 0 x0 x1 x2 x3 x4 x5 x6 x7 x10 x11 0 0 x6 x7 x13 x14 = cond p 1 0 := c1
    have c2' : r37l1 ((1000 + x14.length + x13.length) + (esOf x6 x7 n (n + 1)).length) (3 : Int) (n : Int) (j : Int) (n : Int) 0 x0 x1 x2 x3 x4 x5 x6 x7 x10 x11 0 0 (esOf x6 x7 n (n + 1)) x13 x14 = cond p 1 0 := c2
    rw [e36, e37, c1', c2']
    cases p with
    | false => exact ⟨_, _, _, rfl, rfl⟩
    | true =>
      have hR := runs3 hr ho hl hv (a := x6) (b := x7) (lw := x10) (hh := x11) (z0 := 0) (z1 := 0) (z2 := 0) (z3 := 0) hn f0 (esOf_len x6 x7 n (n + 1)) (fun i hi => esOf_at (show i < n + 1 by omega)) n 0 (1000 + x14.length + x13.length) ((1000 + x14.length + x13.length) + (esOf x6 x7 n (n + 1)).length) 0 0 0 0 0 x0 x1 x2 x3 x4 x5 x6 x7 0 0 (by omega) (by omega) (by omega) (by omega) (.inl rfl) (.inl rfl)
      exact narrow_fin hR


theorem plain9 (x0 x1 x2 x3 x4 x5 x6 x7 : Nat) (x8 : Int) (x9 : ByteArray) (x10 x11 : Nat) (x12 : Int) (x13 : List ByteArray) (x14 : List (List Int)) (_ : FloatKind.f32.has x0) (_ : FloatKind.f32.has x1) (_ : FloatKind.f32.has x2) (_ : FloatKind.f32.has x3) (_ : FloatKind.f32.has x4) (_ : FloatKind.f32.has x5) (_ : FloatKind.f32.has x6) (_ : FloatKind.f32.has x7) (_ : IntKind.i64.has x8) (_ : x9.size ≤ 9223372036854775807) (_ : FloatKind.f32.has x10) (_ : FloatKind.f32.has x11) (_ : IntKind.i64.has x12) (s13 : ∀ s ∈ x13, s.size ≤ 9223372036854775807) (l13 : x13.length ≤ 9223372036854775807) (k14 : RowsOk S3 x14) (l14 : x14.length ≤ 9223372036854775807) : r9 x0 x1 x2 x3 x4 x5 x6 x7 x8 x9 x10 x11 x12 x13 x14 = (0, true) := by
  unfold r9
  cases decide (((((x9.size) : Nat) : Int) : Int) > 1048576) with
  | true => rfl
  | false =>
  obtain ⟨v, e, hv⟩ := szP s13 l13 l14 (show (0 : Int) ≤ 1048576 by decide) (Int.le_refl _)
  rw [e]
  rcases hv with rfl | ⟨g1, g2, g3, g4⟩
  · rfl
  rw [decide_eq_false (show ¬ v < 0 by omega), copyP k14 g3 g4]
  obtain ⟨b, c1, c2⟩ := valid_both s13 k14 g3 g4
  have key : ∃ y z c, r36 x0 x1 x2 x3 x4 x5 x6 x7 x8 x9 x10 x11 x12 x13 x14 = (0, y, z, c) ∧ r37 x0 x1 x2 x3 x4 x5 x6 x7 x8 x9 x10 x11 x12 x13 x14 = (0, y, z, c) := by
    have e63 : r63 x10 x11 = r71 x10 x11 := rfl
    have e60 : r60 x10 x11 x0 x1 x2 x3 x4 x5 x6 x7 x13 x14 = (0, cond b (cond (r71 x10 x11) (cond (r64 x0 x1 x2 x3 x4 x5 x6 x7) 0 2) 1) 1) := by
      unfold r60
      rw [c1]
      cases b with
      | false => rfl
      | true =>
        obtain ⟨q, q1, q2⟩ := given_eq c1 x0 x1 x2 x3 x4 x5 x6 x7
        rw [q1, q2]
        cases r71 x10 x11 <;> cases q <;> rfl
    cases b with
    | false =>
      refine ⟨0, 0, 1, ?_, ?_⟩
      · unfold r36; rw [e60]; rfl
      · unfold r37; rw [c2]; rfl
    | true =>
      cases h71 : r71 x10 x11 with
      | false =>
        refine ⟨0, 0, 1, ?_, ?_⟩
        · unfold r36; rw [e60, h71]; rfl
        · unfold r37; rw [c2, e63, h71]; rfl
      | true =>
        cases h64 : r64 x0 x1 x2 x3 x4 x5 x6 x7 with
        | false =>
          refine ⟨0, 0, 2, ?_, ?_⟩
          · unfold r36; rw [e60, h71, h64]; rfl
          · unfold r37; rw [c2, e63, h71, h64]; rfl
        | true =>
          rw [h71, h64] at e60
          have hg : r60 x10 x11 x0 x1 x2 x3 x4 x5 x6 x7 x13 x14 = (0, 0) := e60
          by_cases hi0 : x8 < 0
          · refine ⟨0, 0, 2, ?_, ?_⟩
            · have k1 : r68 x8 0 3 = false := by unfold r68; rw [decide_eq_false (show ¬ (x8 ≥ 0) by omega)]; rfl
              unfold r36; rw [hg, k1]; rfl
            · unfold r37; rw [c2, e63, h71, h64, decide_eq_true hi0]; rfl
          by_cases hi4 : x8 ≥ 4
          · refine ⟨0, 0, 2, ?_, ?_⟩
            · have k1 : r68 x8 0 3 = false := by unfold r68; rw [decide_eq_true (show x8 ≥ 0 by omega), decide_eq_false (show ¬ (x8 ≤ 3) by omega)]; rfl
              unfold r36; rw [hg, k1]; rfl
            · unfold r37; rw [c2, e63, h71, h64, decide_eq_false hi0, decide_eq_true hi4]; rfl
          have k1 : r68 x8 0 3 = true := by unfold r68; rw [decide_eq_true (show x8 ≥ 0 by omega), decide_eq_true (show x8 ≤ 3 by omega)]; rfl
          by_cases hn1 : x12 < 1
          · refine ⟨0, 0, 2, ?_, ?_⟩
            · have k2 : r68 x12 1 64 = false := by unfold r68; rw [decide_eq_false (show ¬ (x12 ≥ 1) by omega)]; rfl
              unfold r36; rw [hg, k1, k2]; rfl
            · unfold r37; rw [c2, e63, h71, h64, decide_eq_false hi0, decide_eq_false hi4, decide_eq_true hn1]; rfl
          by_cases hn2 : x12 > 64
          · refine ⟨0, 0, 2, ?_, ?_⟩
            · have k2 : r68 x12 1 64 = false := by unfold r68; rw [decide_eq_true (show x12 ≥ 1 by omega), decide_eq_false (show ¬ (x12 ≤ 64) by omega)]; rfl
              unfold r36; rw [hg, k1, k2]; rfl
            · unfold r37; rw [c2, e63, h71, h64, decide_eq_false hi0, decide_eq_false hi4, decide_eq_false hn1, decide_eq_true hn2]; rfl
          obtain ⟨n, rfl⟩ : ∃ n : Nat, x12 = (n : Int) := ⟨x12.toNat, by omega⟩
          rcases (show x8 = 0 ∨ x8 = 1 ∨ x8 = 2 ∨ x8 = 3 by omega) with rfl | rfl | rfl | rfl
          · exact narrow0 k14 g4 g3 c1 c2 hg (e63.trans h71) h64 (by omega) (by omega)
          · exact narrow1 k14 g4 g3 c1 c2 hg (e63.trans h71) h64 (by omega) (by omega)
          · exact narrow2 k14 g4 g3 c1 c2 hg (e63.trans h71) h64 (by omega) (by omega)
          · exact narrow3 k14 g4 g3 c1 c2 hg (e63.trans h71) h64 (by omega) (by omega)
  obtain ⟨y, z, c, d1, d2⟩ := key
  simp only [d1, d2, span_self, prog_self g3 g4, bne_self_eq_false]
  rfl
end Go.Proofs.Ytfclciebpnnieaa