/- Flats: sizes, copies, validity, sameness. -/
import Derived.Test.YtffpnkkhcgjmfaaDoorFt3
import Derived.Test.YtffpnkkhcgjmfaaDoorA28
namespace Go.Proofs.YtffpnkkhcgjmfaaDoor
open Go.Ab

abbrev Sh1 : List CT := [.fl .f32]
abbrev Sh8 : List CT := [.int .i64, .int .i64, .fl .f32, .fl .f32, .fl .f32, .fl .f32, .fl .f32, .fl .f32]
abbrev Sh4 : List CT := [.int .i64, .int .i64, .fl .f32, .fl .f32]
/-! ### sizes -/
theorem r29_eq {b : Int} {l : List (List Int)} (h0 : 0 ≤ b) (h1 : b ≤ 1048576) (hl : l.length ≤ 9223372036854775807) : (r29 b l < 0) ∨ (r29 b l = b - l.length ∧ 0 ≤ b - l.length) := by
  unfold r29 w29
  rw [wrap_i64 (by omega) (by omega)]
  by_cases h : b - (l.length : Int) < 0
  · rw [decide_eq_true h]; exact .inl (by show (-1 : Int) < 0; omega)
  · rw [decide_eq_false h]; exact .inr ⟨rfl, by omega⟩
theorem r30_eq {b : Int} {l : List (List Int)} (h0 : 0 ≤ b) (h1 : b ≤ 1048576) (hl : l.length ≤ 9223372036854775807) : (r30 b l < 0) ∨ (r30 b l = b - l.length ∧ 0 ≤ b - l.length) := by
  unfold r30 w30
  rw [wrap_i64 (by omega) (by omega)]
  by_cases h : b - (l.length : Int) < 0
  · rw [decide_eq_true h]; exact .inl (by show (-1 : Int) < 0; omega)
  · rw [decide_eq_false h]; exact .inr ⟨rfl, by omega⟩
theorem r31_eq {b : Int} {l : List (List Int)} (h0 : 0 ≤ b) (h1 : b ≤ 1048576) (hl : l.length ≤ 9223372036854775807) : (r31 b l < 0) ∨ (r31 b l = b - l.length ∧ 0 ≤ b - l.length) := by
  unfold r31 w31
  rw [wrap_i64 (by omega) (by omega)]
  by_cases h : b - (l.length : Int) < 0
  · rw [decide_eq_true h]; exact .inl (by show (-1 : Int) < 0; omega)
  · rw [decide_eq_false h]; exact .inr ⟨rfl, by omega⟩
theorem szF {x0 x1 x2 x3 : List (List Int)} (l0 : x0.length ≤ 9223372036854775807) (l1 : x1.length ≤ 9223372036854775807) (l2 : x2.length ≤ 9223372036854775807) (l3 : x3.length ≤ 9223372036854775807) :
    r10 1048576 x0 x1 x2 x3 < 0 ∨ (0 ≤ r10 1048576 x0 x1 x2 x3 ∧ x0.length ≤ 1048576 ∧ x1.length ≤ 1048576 ∧ x2.length ≤ 1048576 ∧ x3.length ≤ 1048576) := by
  unfold r10 w10
  rcases r29_eq (b := 1048576) (l := x0) (by omega) (by omega) l0 with g | ⟨g, h⟩
  · rw [decide_eq_true g]; exact .inl (by show (-1 : Int) < 0; omega)
  rw [g, decide_eq_false (by omega), cond_false]
  rcases r29_eq (b := 1048576 - x0.length) (l := x1) (by omega) (by omega) l1 with g | ⟨g, h'⟩
  · rw [decide_eq_true g]; exact .inl (by show (-1 : Int) < 0; omega)
  rw [g, decide_eq_false (by omega), cond_false]
  rcases r30_eq (b := 1048576 - x0.length - x1.length) (l := x2) (by omega) (by omega) l2 with g | ⟨g, h''⟩
  · rw [decide_eq_true g]; exact .inl (by show (-1 : Int) < 0; omega)
  rw [g, decide_eq_false (by omega), cond_false]
  rcases r31_eq (b := 1048576 - x0.length - x1.length - x2.length) (l := x3) (by omega) (by omega) l3 with g | ⟨g, hq⟩
  · rw [decide_eq_true g]; exact .inl (by show (-1 : Int) < 0; omega)
  rw [g, decide_eq_false (by omega), cond_false]
  exact .inr ⟨by omega, by omega, by omega, by omega, by omega⟩
/-! ### copies -/
theorem copy34 {rows : List (List Int)} (h : RowsOk Sh1 rows) (hl : rows.length ≤ 1048576) : r34 rows = (0, rows) := by
  have key : ∀ fuel, rows.length < fuel → r34l0 fuel 0 rows (List.replicate rows.length ([0] : List Int)) = (0, rows) := by
    intro fuel hf
    refine copy_loop (d := []) (mk := fun x => (0, x)) (G := fun m x i => r34l0 m i rows x) ?_ ?_ (by simp) hf
    · intro m x hx
      show b34l0 (r34l0 m) _ rows x = _
      unfold b34l0
      rw [dlt_f (Nat.lt_irrefl _)]; rfl
    · intro m i x hi hx
      show b34l0 (r34l0 m) _ rows x = _
      unfold b34l0
      rw [dlt_t hi, dle0, Int.toNat_natCast, blt_t hi, blt_t (by omega), wrap_succ (by omega)]
      exact congrArg (fun r => r34l0 m _ rows (x.set i r)) (reb_eq (h.get hi))
  unfold r34 w34
  rw [key _ (by simp; omega)]
  have c1 : decide ((0 : Int) ≤ ((rows.length : Nat) : Int)) = true := dle0 _
  have c2 : decide ((((rows.length : Nat) : Int) : Int) ≤ ((rows.length : Nat) : Int)) = true := by simp
  have c3 : decide (((4 : Nat) : Int) * ((rows.length : Nat) : Int) ≤ 281474976710656) = true := by rw [decide_eq_true_eq]; omega
  have c4 : decide (((rows.length : Nat) : Int) ≤ 9223372036854775807) = true := by rw [decide_eq_true_eq]; omega
  rw [c1, c2, c3, c4]; rfl
theorem copy35 {rows : List (List Int)} (h : RowsOk Sh8 rows) (hl : rows.length ≤ 1048576) : r35 rows = (0, rows) := by
  have key : ∀ fuel, rows.length < fuel → r35l0 fuel 0 rows (List.replicate rows.length ([0, 0, 0, 0, 0, 0, 0, 0] : List Int)) = (0, rows) := by
    intro fuel hf
    refine copy_loop (d := []) (mk := fun x => (0, x)) (G := fun m x i => r35l0 m i rows x) ?_ ?_ (by simp) hf
    · intro m x hx
      show b35l0 (r35l0 m) _ rows x = _
      unfold b35l0
      rw [dlt_f (Nat.lt_irrefl _)]; rfl
    · intro m i x hi hx
      show b35l0 (r35l0 m) _ rows x = _
      unfold b35l0
      rw [dlt_t hi, dle0, Int.toNat_natCast, blt_t hi, blt_t (by omega), wrap_succ (by omega)]
      exact congrArg (fun r => r35l0 m _ rows (x.set i r)) (reb_eq (h.get hi))
  unfold r35 w35
  rw [key _ (by simp; omega)]
  have c1 : decide ((0 : Int) ≤ ((rows.length : Nat) : Int)) = true := dle0 _
  have c2 : decide ((((rows.length : Nat) : Int) : Int) ≤ ((rows.length : Nat) : Int)) = true := by simp
  have c3 : decide (((40 : Nat) : Int) * ((rows.length : Nat) : Int) ≤ 281474976710656) = true := by rw [decide_eq_true_eq]; omega
  have c4 : decide (((rows.length : Nat) : Int) ≤ 9223372036854775807) = true := by rw [decide_eq_true_eq]; omega
  rw [c1, c2, c3, c4]; rfl
theorem copy36 {rows : List (List Int)} (h : RowsOk Sh4 rows) (hl : rows.length ≤ 1048576) : r36 rows = (0, rows) := by
  have key : ∀ fuel, rows.length < fuel → r36l0 fuel 0 rows (List.replicate rows.length ([0, 0, 0, 0] : List Int)) = (0, rows) := by
    intro fuel hf
    refine copy_loop (d := []) (mk := fun x => (0, x)) (G := fun m x i => r36l0 m i rows x) ?_ ?_ (by simp) hf
    · intro m x hx
      show b36l0 (r36l0 m) _ rows x = _
      unfold b36l0
      rw [dlt_f (Nat.lt_irrefl _)]; rfl
    · intro m i x hi hx
      show b36l0 (r36l0 m) _ rows x = _
      unfold b36l0
      rw [dlt_t hi, dle0, Int.toNat_natCast, blt_t hi, blt_t (by omega), wrap_succ (by omega)]
      exact congrArg (fun r => r36l0 m _ rows (x.set i r)) (reb_eq (h.get hi))
  unfold r36 w36
  rw [key _ (by simp; omega)]
  have c1 : decide ((0 : Int) ≤ ((rows.length : Nat) : Int)) = true := dle0 _
  have c2 : decide ((((rows.length : Nat) : Int) : Int) ≤ ((rows.length : Nat) : Int)) = true := by simp
  have c3 : decide (((24 : Nat) : Int) * ((rows.length : Nat) : Int) ≤ 281474976710656) = true := by rw [decide_eq_true_eq]; omega
  have c4 : decide (((rows.length : Nat) : Int) ≤ 9223372036854775807) = true := by rw [decide_eq_true_eq]; omega
  rw [c1, c2, c3, c4]; rfl
theorem copyF {x0 x1 x2 x3 : List (List Int)} (k0 : RowsOk Sh1 x0) (k1 : RowsOk Sh1 x1) (k2 : RowsOk Sh8 x2) (k3 : RowsOk Sh4 x3) (l0 : x0.length ≤ 1048576) (l1 : x1.length ≤ 1048576) (l2 : x2.length ≤ 1048576) (l3 : x3.length ≤ 1048576) : r12 x0 x1 x2 x3 = (0, x0, x1, x2, x3) := by
  unfold r12 w12
  rw [copy34 k0 l0, copy34 k1 l1, copy35 k2 l2, copy36 k3 l3]; rfl
theorem bne_len {a b : Nat} : (((a : Nat) : Int) != ((b : Nat) : Int)) = !decide (b = a) := by
  by_cases h : b = a
  · subst h; simp
  · rw [decide_eq_false h]
    simp only [bne, Bool.not_false, Bool.not_eq_true', beq_eq_false_iff_ne]
    omega
/-! ### itself -/
theorem float_self (a : Nat) : r74 a a = true := by
  unfold r74
  cases h : feq .f64 a a <;> cases feq .f64 a 0 <;> simp
theorem wall_self (a b : Int) (c d e f g h : Nat) : r75 a b c d e f g h a b c d e f g h = true := by
  unfold r75 w75 r90 w90
  simp only [float_self, bne_self_eq_false]; rfl
theorem pane_self (a b : Int) (c d : Nat) : r76 a b c d a b c d = true := by
  unfold r76 w76
  simp only [float_self, bne_self_eq_false]; rfl
theorem self31 {l : List (List Int)} (hl : l.length ≤ 1048576) : r39 l l = (0, true) := by
  have key : r39l0 (1000 + l.length + l.length) 0 l l = 1 := by
    have := all_loop (n := l.length) (p := fun _ => true) (yes := 1) (no := 0) (G := fun m i => r39l0 m i l l) (fuel := 1000 + l.length + l.length) ?_ ?_ (by omega)
    · rw [this, show allN l.length (fun _ => true) = true from allN_true.2 (fun _ _ => rfl)]; rfl
    · intro m
      show b39l0 (r39l0 m) _ _ _ = _
      unfold b39l0
      rw [dlt_f (Nat.lt_irrefl _)]; rfl
    · intro m i hi
      show b39l0 (r39l0 m) _ _ _ = _
      unfold b39l0
      simp only [float_self]
      rw [dlt_t hi, dle0, Int.toNat_natCast, blt_t hi, wrap_succ (by omega)]
      rfl
  unfold r39 w39
  rw [key, bne_len]; simp [Nat.beq]
theorem self81 {l : List (List Int)} (hl : l.length ≤ 1048576) : r40 l l = (0, true) := by
  have key : r40l0 (1000 + l.length + l.length) 0 l l = 1 := by
    have := all_loop (n := l.length) (p := fun _ => true) (yes := 1) (no := 0) (G := fun m i => r40l0 m i l l) (fuel := 1000 + l.length + l.length) ?_ ?_ (by omega)
    · rw [this, show allN l.length (fun _ => true) = true from allN_true.2 (fun _ _ => rfl)]; rfl
    · intro m
      show b40l0 (r40l0 m) _ _ _ = _
      unfold b40l0
      rw [dlt_f (Nat.lt_irrefl _)]; rfl
    · intro m i hi
      show b40l0 (r40l0 m) _ _ _ = _
      unfold b40l0
      simp only [wall_self]
      rw [dlt_t hi, dle0, Int.toNat_natCast, blt_t hi, wrap_succ (by omega)]
      rfl
  unfold r40 w40
  rw [key, bne_len]; simp [Nat.beq]
theorem self82 {l : List (List Int)} (hl : l.length ≤ 1048576) : r41 l l = (0, true) := by
  have key : r41l0 (1000 + l.length + l.length) 0 l l = 1 := by
    have := all_loop (n := l.length) (p := fun _ => true) (yes := 1) (no := 0) (G := fun m i => r41l0 m i l l) (fuel := 1000 + l.length + l.length) ?_ ?_ (by omega)
    · rw [this, show allN l.length (fun _ => true) = true from allN_true.2 (fun _ _ => rfl)]; rfl
    · intro m
      show b41l0 (r41l0 m) _ _ _ = _
      unfold b41l0
      rw [dlt_f (Nat.lt_irrefl _)]; rfl
    · intro m i hi
      show b41l0 (r41l0 m) _ _ _ = _
      unfold b41l0
      simp only [pane_self]
      rw [dlt_t hi, dle0, Int.toNat_natCast, blt_t hi, wrap_succ (by omega)]
      rfl
  unfold r41 w41
  rw [key, bne_len]; simp [Nat.beq]
theorem flat_self {x0 x1 x2 x3 : List (List Int)} (l0 : x0.length ≤ 1048576) (l1 : x1.length ≤ 1048576) (l2 : x2.length ≤ 1048576) (l3 : x3.length ≤ 1048576) : r14 x0 x1 x2 x3 x0 x1 x2 x3 = (0, true) := by
  unfold r14 w14
  rw [self31 l0, self31 l1, self81 l2, self82 l3]; rfl
/-! ### numbers -/
theorem fin_spec (d : Nat) : r78 d = decide (d % 2147483648 < 2139095040) := finite_sub d
theorem fin_impl (d : Nat) : r51 d = decide (d % 2147483648 < 2139095040) := by
  have e : r82 (widen d) 0 = decide (d % 2147483648 = 2139095040) := abs_top d
  have e70 : r51 d = cond (r81 (widen d)) false (cond (r82 (widen d) 0) false true) := rfl
  rw [e70]
  unfold r81 w81
  rw [e, feq_self, isN_widen, isN32]
  by_cases h1 : 2139095040 < d % 2147483648
  · have h2 : ¬ (d % 2147483648 < 2139095040) := by omega
    simp [h1, h2]
  · by_cases h2 : d % 2147483648 = 2139095040
    · simp [h2]
    · have h3 : d % 2147483648 < 2139095040 := by omega
      simp [h1, h2, h3]
theorem amount_eq (d : Nat) (h : d < 4294967296) : r68 d = decide (d < 2139095040) ∧ r84 d = decide (d < 2139095040) := by
  unfold r68 r84 w84
  rw [fin_spec, fin_impl]
  by_cases h1 : d % 2147483648 < 2139095040
  · have hn : isN .f32 d = false := by rw [isN32, decide_eq_false_iff_not]; omega
    have z : isN .f32 0 = false := by decide
    rw [decide_eq_true h1]
    rw [fgt_key .f32 d _ hn z, feq_key .f32 d _ hn z, key32 d h, key32 0 (by decide)]
    have e31 : (min (31 : Int).toNat (IntKind.bits .u32)) = 31 := by decide
    have ef : Int.fdiv (d : Int) (2 ^ 31) = ((d / 2147483648 : Nat) : Int) := by
      rw [Int.fdiv_eq_ediv_of_nonneg _ (by decide)]; rfl
    rw [e31, ef]
    by_cases h2 : 2147483648 ≤ d
    · have g1 : ¬ d < 2139095040 := by omega
      have g2 : d / 2147483648 = 1 := by omega
      have g3 : ((d : Int) == 0) = false := by rw [beq_eq_false_iff_ne]; omega
      have g4 : ¬ ((d : Int) < 2147483648) := by omega
      simp only [if_pos h2, g2]
      simp [g1, g3, g4, hn]
    · have g1 : d < 2139095040 := by omega
      have g2 : d / 2147483648 = 0 := by omega
      simp only [if_neg h2, g2]
      by_cases h3 : d = 0
      · subst h3; simp [hn]
      · have g5 : 0 < d := by omega
        simp [g1, g5]
  · have g1 : ¬ d < 2139095040 := by omega
    rw [decide_eq_false h1, decide_eq_false g1]
    exact ⟨rfl, rfl⟩
theorem amt (d : Nat) (h : d < 4294967296) : r68 d = r84 d := (amount_eq d h).1.trans (amount_eq d h).2.symm
theorem store_eq (d : Nat) (h : d < 4294967296) : r66 d = r59 d := by
  unfold r66 w66 r59 w59
  rw [amt d h]; rfl
theorem sides_eq (a b : Int) {n : Nat} (hn : n ≤ 1048576) : r85 a b (n : Int) = r67 a b (n : Int) := by
  unfold r85 w85 r67 w67 r44 w44
  rw [wrap_i64 (by omega) (by omega)]
  have e : ∀ x : Int, decide (x ≤ (n : Int) - 1) = decide (x < (n : Int)) := fun x => by
    by_cases h : x < (n : Int)
    · rw [decide_eq_true h]; exact decide_eq_true (by omega)
    · rw [decide_eq_false h]; exact decide_eq_false (by omega)
  rw [e, e]
  cases decide (a ≥ 0) <;> cases decide (a < (n : Int)) <;> cases decide (b ≥ -1) <;> cases decide (b < (n : Int)) <;> rfl
/-- a cell of a table that holds a float -/
@[reducible] def fc (t : List (List Int)) (i j : Nat) : Nat := Int.toNat ((t.getD i []).getD j 0)
@[reducible] def ic (t : List (List Int)) (i j : Nat) : Int := (t.getD i []).getD j 0
theorem fc_lt {s : List CT} {t : List (List Int)} (h : RowsOk s t) {i j : Nat} (hi : i < t.length) (hj : s[j]? = some (.fl .f32)) : fc t i j < 4294967296 := CTok.lt32 ((h.get hi).get hj)
/-! ### validity -/
noncomputable def pR (x0 x1 : List (List Int)) (i : Nat) : Bool := r58 (fc x0 i 0) && r59 (fc x1 i 0)
noncomputable def pW (n : Nat) (t : List (List Int)) (i : Nat) : Bool := r58 (fc t i 4) && (r58 (fc t i 5) && (r58 (fc t i 6) && (r58 (fc t i 7) && (r85 (ic t i 0) (ic t i 1) (n : Int) && (r84 (fc t i 2) && ((fgt .f32 (fc t i 2) 1015021568 || feq .f32 (fc t i 2) 1015021568) && ((flt .f32 (fc t i 2) 1120403456 || feq .f32 (fc t i 2) 1120403456) && r59 (fc t i 3))))))))
noncomputable def pP (n : Nat) (t : List (List Int)) (i : Nat) : Bool := r85 (ic t i 0) (ic t i 1) (n : Int) && (r84 (fc t i 2) && ((flt .f32 (fc t i 2) 1120403456 || feq .f32 (fc t i 2) 1120403456) && (r84 (fc t i 3) && (flt .f32 (fc t i 3) 1092616192 || feq .f32 (fc t i 3) 1092616192))))
theorem wallS {n i : Nat} {t : List (List Int)} (hi : i < t.length) : r60 i (n : Int) t = (0, pW n t i) := by
  unfold r60 pW
  rw [blt_t hi]
  generalize r58 (fc t i 4) = a1
  generalize r58 (fc t i 5) = a2
  generalize r58 (fc t i 6) = a3
  generalize r58 (fc t i 7) = a4
  generalize r85 (ic t i 0) (ic t i 1) (n : Int) = a5
  generalize r84 (fc t i 2) = a6
  generalize (fgt .f32 (fc t i 2) 1015021568 || feq .f32 (fc t i 2) 1015021568) = a7
  generalize (flt .f32 (fc t i 2) 1120403456 || feq .f32 (fc t i 2) 1120403456) = a8
  cases a1 with
  | false => rfl
  | true =>
  cases a2 with
  | false => rfl
  | true =>
  cases a3 with
  | false => rfl
  | true =>
  cases a4 with
  | false => rfl
  | true =>
  cases a5 with
  | false => rfl
  | true =>
  cases a6 with
  | false => rfl
  | true =>
  cases a7 with
  | false => rfl
  | true =>
  cases a8 <;> rfl
theorem paneS {n i : Nat} {t : List (List Int)} (hi : i < t.length) : r61 i (n : Int) t = (0, pP n t i) := by
  unfold r61 pP
  rw [blt_t hi]
  cases r85 (ic t i 0) (ic t i 1) (n : Int) <;> cases r84 (fc t i 2) <;> cases (flt .f32 (fc t i 2) 1120403456 || feq .f32 (fc t i 2) 1120403456) <;> cases r84 (fc t i 3) <;> rfl
section
variable {x0 x1 x2 x3 : List (List Int)} (l0 : x0.length ≤ 1048576) (l1 : x1.length = x0.length) (l2 : x2.length ≤ 1048576) (l3 : x3.length ≤ 1048576)
include l0 l1 in
theorem roomsS {fuel : Nat} (hf : x0.length < fuel) : r32l0 fuel ((x0.length : Nat) : Int) 0 x0 x1 x2 x3 = cond (allN x0.length (pR x0 x1)) 1 0 := by
  refine all_loop (n := x0.length) (p := pR x0 x1) (yes := 1) (no := 0) (G := fun m i => r32l0 m ((x0.length : Nat) : Int) i x0 x1 x2 x3) ?_ ?_ hf
  · intro m
    show b32l0 (r32l0 m) _ _ _ _ _ _ = _
    unfold b32l0
    rw [dlt_f (Nat.lt_irrefl _)]; rfl
  · intro m i hi
    show b32l0 (r32l0 m) _ _ _ _ _ _ = _
    unfold b32l0 pR
    rw [dlt_t hi, dle0, Int.toNat_natCast, blt_t hi, blt_t (by omega), wrap_succ (by omega)]
    cases r58 (fc x0 i 0) <;> cases r59 (fc x1 i 0) <;> rfl
include l2 in
theorem wallsS {n fuel : Nat} (hf : x2.length < fuel) : r32l1 fuel (n : Int) 0 x0 x1 x2 x3 = cond (allN x2.length (pW n x2)) 1 0 := by
  refine all_loop (n := x2.length) (p := pW n x2) (yes := 1) (no := 0) (G := fun m i => r32l1 m (n : Int) i x0 x1 x2 x3) ?_ ?_ hf
  · intro m
    show b32l1 (r32l1 m) _ _ _ _ _ _ = _
    unfold b32l1 w32l1
    rw [dlt_f (Nat.lt_irrefl _)]; rfl
  · intro m i hi
    show b32l1 (r32l1 m) _ _ _ _ _ _ = _
    unfold b32l1 w32l1
    rw [dlt_t hi, dle0, Int.toNat_natCast, blt_t hi, wallS hi, wrap_succ (by omega)]
    cases pW n x2 i <;> rfl
include l3 in
theorem panesS {n fuel : Nat} (hf : x3.length < fuel) : r32l2 fuel (n : Int) 0 x0 x1 x2 x3 = cond (allN x3.length (pP n x3)) 1 0 := by
  refine all_loop (n := x3.length) (p := pP n x3) (yes := 1) (no := 0) (G := fun m i => r32l2 m (n : Int) i x0 x1 x2 x3) ?_ ?_ hf
  · intro m
    show b32l2 (r32l2 m) _ _ _ _ _ _ = _
    unfold b32l2 w32l2
    rw [dlt_f (Nat.lt_irrefl _)]; rfl
  · intro m i hi
    show b32l2 (r32l2 m) _ _ _ _ _ _ = _
    unfold b32l2 w32l2
    rw [dlt_t hi, dle0, Int.toNat_natCast, blt_t hi, paneS hi, wrap_succ (by omega)]
    cases pP n x3 i <;> rfl
include l0 l1 in
theorem roomsI (k1 : RowsOk Sh1 x1) {fuel : Nat} (hf : x0.length < fuel) : r37l0 fuel ((x0.length : Nat) : Int) ((x0.length : Nat) : Int) 0 x0 x1 x2 x3 = cond (allN x0.length (pR x0 x1)) 1 0 := by
  refine all_loop (n := x0.length) (p := pR x0 x1) (yes := 1) (no := 0) (G := fun m i => r37l0 m ((x0.length : Nat) : Int) ((x0.length : Nat) : Int) i x0 x1 x2 x3) ?_ ?_ hf
  · intro m
    show b37l0 (r37l0 m) _ _ _ _ _ _ _ = _
    unfold b37l0
    rw [dlt_f (Nat.lt_irrefl _)]; rfl
  · intro m i hi
    show b37l0 (r37l0 m) _ _ _ _ _ _ _ = _
    unfold b37l0 pR
    rw [dlt_t hi, dle0, Int.toNat_natCast, blt_t hi, blt_t (by omega), wrap_succ (by omega), store_eq _ (fc_lt k1 (show i < x1.length by omega) rfl), show r65 (fc x0 i 0) = r58 (fc x0 i 0) from rfl]
    cases r58 (fc x0 i 0) <;> cases r59 (fc x1 i 0) <;> rfl
theorem and9 : ∀ a b c d e f g h i : Bool, (a && (b && (c && (d && (e && (f && (g && (h && i)))))))) = (e && (f && ((cond g h false) && (i && (a && (b && (c && d))))))) := by decide
include l2 in
theorem wallsI (k2 : RowsOk Sh8 x2) {n fuel : Nat} (hn : n ≤ 1048576) (hf : x2.length < fuel) : r37l1 fuel (n : Int) ((x2.length : Nat) : Int) 0 x2 x0 x1 x3 = cond (allN x2.length (pW n x2)) 1 0 := by
  refine all_loop (n := x2.length) (p := pW n x2) (yes := 1) (no := 0) (G := fun m i => r37l1 m (n : Int) ((x2.length : Nat) : Int) i x2 x0 x1 x3) ?_ ?_ hf
  · intro m
    show b37l1 (r37l1 m) _ _ _ _ _ _ _ = _
    unfold b37l1
    rw [dlt_f (Nat.lt_irrefl _)]; rfl
  · intro m i hi
    show b37l1 (r37l1 m) _ _ _ _ _ _ _ = _
    unfold b37l1 pW
    rw [and9, dlt_t hi, dle0, Int.toNat_natCast, blt_t hi, wrap_succ (by omega), store_eq _ (fc_lt k2 hi rfl), amt _ (fc_lt k2 hi rfl), sides_eq _ _ hn]
    simp only [show ∀ x, r65 x = r58 x from fun _ => rfl, show ∀ x a b, r69 x a b = cond (fgt .f32 x a || feq .f32 x a) (flt .f32 x b || feq .f32 x b) false from fun _ _ _ => rfl]
    generalize r67 (ic x2 i 0) (ic x2 i 1) (n : Int) = a5
    generalize r84 (fc x2 i 2) = a6
    generalize cond (fgt .f32 (fc x2 i 2) 1015021568 || feq .f32 (fc x2 i 2) 1015021568) (flt .f32 (fc x2 i 2) 1120403456 || feq .f32 (fc x2 i 2) 1120403456) false = a7
    generalize r59 (fc x2 i 3) = a8
    generalize r58 (fc x2 i 4) = a1
    generalize r58 (fc x2 i 5) = a2
    generalize r58 (fc x2 i 6) = a3
    generalize r58 (fc x2 i 7) = a4
    cases a5 with
    | false => rfl
    | true =>
    cases a6 with
    | false => rfl
    | true =>
    cases a7 with
    | false => rfl
    | true =>
    cases a8 with
    | false => rfl
    | true =>
    cases a1 with
    | false => rfl
    | true =>
    cases a2 with
    | false => rfl
    | true =>
    cases a3 with
    | false => rfl
    | true =>
    cases a4 <;> rfl
include l3 in
theorem panesI (k3 : RowsOk Sh4 x3) {n fuel : Nat} (hn : n ≤ 1048576) (hf : x3.length < fuel) : r37l3 fuel (n : Int) ((x3.length : Nat) : Int) 0 x3 = cond (allN x3.length (pP n x3)) 1 0 := by
  refine all_loop (n := x3.length) (p := pP n x3) (yes := 1) (no := 0) (G := fun m i => r37l3 m (n : Int) ((x3.length : Nat) : Int) i x3) ?_ ?_ hf
  · intro m
    show b37l3 (r37l3 m) _ _ _ _ = _
    unfold b37l3
    rw [dlt_f (Nat.lt_irrefl _)]; rfl
  · intro m i hi
    show b37l3 (r37l3 m) _ _ _ _ = _
    unfold b37l3 pP r70 w70
    rw [dlt_t hi, dle0, Int.toNat_natCast, blt_t hi, wrap_succ (by omega), amt _ (fc_lt k3 hi rfl), amt _ (fc_lt k3 hi rfl), sides_eq _ _ hn]
    cases r67 (ic x3 i 0) (ic x3 i 1) (n : Int) <;> cases r84 (fc x3 i 2) <;> cases (flt .f32 (fc x3 i 2) 1120403456 || feq .f32 (fc x3 i 2) 1120403456) <;> cases r84 (fc x3 i 3) <;> cases (flt .f32 (fc x3 i 3) 1092616192 || feq .f32 (fc x3 i 3) 1092616192) <;> rfl
end
/-- a valid flat -/
structure FlatOk (x0 x1 x2 x3 : List (List Int)) : Prop where
  n1 : 1 ≤ x0.length
  n5 : x0.length ≤ 5
  s : x1.length = x0.length
  w : x2.length ≤ 10
  p : x3.length ≤ 8
  rooms : ∀ i, i < x0.length → pR x0 x1 i = true
  walls : ∀ i, i < x2.length → pW x0.length x2 i = true
  panes : ∀ i, i < x3.length → pP x0.length x3 i = true
theorem valid_both {x0 x1 x2 x3 : List (List Int)} (k1 : RowsOk Sh1 x1) (k2 : RowsOk Sh8 x2) (k3 : RowsOk Sh4 x3) (l0 : x0.length ≤ 1048576) (l1 : x1.length ≤ 1048576) (l2 : x2.length ≤ 1048576) (l3 : x3.length ≤ 1048576) : ∃ b, r32 x0 x1 x2 x3 = (0, b) ∧ r37 x0 x1 x2 x3 = (0, b) ∧ (b = true → FlatOk x0 x1 x2 x3) := by
  unfold r32 w32 r37 w37 r44 w44
  by_cases h1 : x0.length < 1
  · rw [decide_eq_true (show (((x0.length : Nat) : Int) < 1) by omega), decide_eq_false (show ¬ ((x0.length : Nat) : Int) ≥ 1 by omega)]
    exact ⟨false, rfl, rfl, fun h => by cases h⟩
  by_cases h5 : x0.length > 5
  · rw [decide_eq_false (show ¬ (((x0.length : Nat) : Int) < 1) by omega), decide_eq_true (show ((x0.length : Nat) : Int) ≥ 1 by omega), decide_eq_true (show ((x0.length : Nat) : Int) > 5 by omega), decide_eq_false (show ¬ ((x0.length : Nat) : Int) ≤ 5 by omega)]
    exact ⟨false, rfl, rfl, fun h => by cases h⟩
  rw [decide_eq_false (show ¬ (((x0.length : Nat) : Int) < 1) by omega), decide_eq_true (show ((x0.length : Nat) : Int) ≥ 1 by omega), decide_eq_false (show ¬ ((x0.length : Nat) : Int) > 5 by omega), decide_eq_true (show ((x0.length : Nat) : Int) ≤ 5 by omega), bne_len]
  by_cases hs' : ¬ x0.length = x1.length
  · rw [decide_eq_false hs']
    exact ⟨false, rfl, rfl, fun h => by cases h⟩
  have hs : x0.length = x1.length := by omega
  rw [decide_eq_true hs]
  by_cases hw : x2.length > 10
  · rw [decide_eq_true (show ((x2.length : Nat) : Int) > 10 by omega)]
    exact ⟨false, rfl, rfl, fun h => by cases h⟩
  rw [decide_eq_false (show ¬ ((x2.length : Nat) : Int) > 10 by omega)]
  by_cases hp : x3.length > 8
  · rw [decide_eq_true (show ((x3.length : Nat) : Int) > 8 by omega)]
    exact ⟨false, rfl, rfl, fun h => by cases h⟩
  rw [decide_eq_false (show ¬ ((x3.length : Nat) : Int) > 8 by omega)]
  rw [roomsS l0 hs.symm (by omega), wallsS l2 (by omega), panesS l3 (by omega), roomsI l0 hs.symm k1 (by omega), wallsI l2 k2 l0 (by omega), panesI l3 k3 l0 (by omega)]
  cases a : allN x0.length (pR x0 x1) with
  | false => exact ⟨false, rfl, rfl, fun h => by cases h⟩
  | true =>
  cases b : allN x2.length (pW x0.length x2) with
  | false => exact ⟨false, rfl, rfl, fun h => by cases h⟩
  | true =>
  cases c : allN x3.length (pP x0.length x3) with
  | false => exact ⟨false, rfl, rfl, fun h => by cases h⟩
  | true => exact ⟨true, rfl, rfl, fun _ => ⟨by omega, by omega, hs.symm, by omega, by omega, allN_true.1 a, allN_true.1 b, allN_true.1 c⟩⟩
/-! ### what valid numbers are -/
theorem store_le {d : Nat} (hd : d < 4294967296) (h : r59 d = true) : 1065353216 ≤ d ∧ d ≤ 1176256512 := by
  unfold r59 w59 at h
  rw [(amount_eq d hd).2] at h
  by_cases h1 : d < 2139095040
  · rw [decide_eq_true h1, cond_true, fgt_flt, flt_pos (by omega) (by omega), flt_pos (by omega) (by omega), feq_of (by unfold Nn; omega) (by unfold Nn; omega) hd (by omega), feq_of (by unfold Nn; omega) (by unfold Nn; omega) hd (by omega), if_neg (by omega), if_neg (by omega), if_neg (by omega)] at h
    by_cases g1 : 1065353216 < d ∨ (d : Int) = ((1065353216 : Nat) : Int)
    · by_cases g2 : d < 1176256512 ∨ (d : Int) = ((1176256512 : Nat) : Int)
      · omega
      · rw [decide_eq_false (fun g => g2 (.inl g)), decide_eq_false (fun g => g2 (.inr g))] at h
        generalize (decide (1065353216 < d) || decide ((d : Int) = ((1065353216 : Nat) : Int))) = q at h
        cases q <;> cases h
    · rw [decide_eq_false (fun g => g1 (.inl g)), decide_eq_false (fun g => g1 (.inr g))] at h; cases h
  · rw [decide_eq_false h1] at h; cases h
theorem heat_le {h : Nat} (hd : h < 4294967296) (e : r58 h = true) : Le h 1128792064 := by
  unfold r58 w58 at e
  cases hn : isN .f32 h with
  | true => rw [fgt_nan_l hn, feq_nan_l hn] at e; cases e
  | false =>
    have hN := nn_isN.1 hn
    rw [fgt_flt, flt_of (by unfold Nn; omega) hN (by omega) hd, feq_of hN (by unfold Nn; omega) hd (by omega), flt_of hN (by unfold Nn; omega) hd (by omega), feq_of hN (by unfold Nn; omega) hd (by omega)] at e
    unfold Nn at hN
    unfold Le
    by_cases h1 : 2147483648 ≤ h
    · simp only [if_pos h1, if_pos (show 2147483648 ≤ 3262119936 by omega), if_neg (show ¬ 2147483648 ≤ 1128792064 by omega)] at e
      by_cases h2 : (2147483648 - ((3262119936 : Nat) : Int) < 2147483648 - (h : Int)) ∨ (2147483648 - (h : Int) = 2147483648 - ((3262119936 : Nat) : Int))
      · omega
      · rw [decide_eq_false (fun g => h2 (.inl g)), decide_eq_false (fun g => h2 (.inr g))] at e; cases e
    · simp only [if_neg h1, if_pos (show 2147483648 ≤ 3262119936 by omega), if_neg (show ¬ 2147483648 ≤ 1128792064 by omega)] at e
      by_cases h2 : ((h : Int) < ((1128792064 : Nat) : Int)) ∨ ((h : Int) = ((1128792064 : Nat) : Int))
      · omega
      · rw [decide_eq_false (fun g => h2 (.inl g)), decide_eq_false (fun g => h2 (.inr g)), decide_eq_true (show 2147483648 - ((3262119936 : Nat) : Int) < (h : Int) by omega)] at e
        cases e
end Go.Proofs.YtffpnkkhcgjmfaaDoor