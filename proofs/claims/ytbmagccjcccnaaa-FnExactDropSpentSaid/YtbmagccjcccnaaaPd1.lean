/- The plain law of DropSpent. -/
import Derived.Test.YtbmagccjcccnaaaDr5
import Derived.Test.YtbmagccjcccnaaaA26
namespace Go.Proofs.Ytbmagccjcccnaaa
open Go.Ab

theorem cond_pair {α β : Type} (c : Bool) (a : α) (x y : β) : cond c (a, x) (a, y) = (a, cond c x y) := by cases c <;> rfl

/-! ### numbers -/
theorem same_self (a : Nat) : r14 a a = true := by
  unfold r14
  cases h : feq .f64 a a <;> cases feq .f64 a 0 <;> simp
theorem fin_spec (d : Nat) : r102 d = decide (d % 2147483648 < 2139095040) := finite_sub d
theorem fin_impl (d : Nat) : r104 d = decide (d % 2147483648 < 2139095040) := by
  have e : r122 (widen d) 0 = decide (d % 2147483648 = 2139095040) := abs_top d
  unfold r104 r121
  rw [e, feq_self, isN_widen, isN32]
  by_cases h1 : 2139095040 < d % 2147483648
  · have h2 : ¬ (d % 2147483648 < 2139095040) := by omega
    simp [h1, h2]
  · by_cases h2 : d % 2147483648 = 2139095040
    · simp [h2]
    · have h3 : d % 2147483648 < 2139095040 := by omega
      simp [h1, h2, h3]
theorem amount_eq (d : Nat) (h : d < 4294967296) : r91 d = decide (d < 2139095040) ∧ r100 d = decide (d < 2139095040) := by
  unfold r91 r100
  rw [fin_spec, fin_impl]
  by_cases h1 : d % 2147483648 < 2139095040
  · have hn : isN .f32 d = false := by rw [isN32, decide_eq_false_iff_not]; omega
    have z : isN .f32 0 = false := by decide
    rw [decide_eq_true h1]
    rw [fgt_key .f32 d _ hn z, feq_key .f32 d _ hn z, key32 d h, key32 0 (by decide)]
    have e31 : (min (31 : Int).toNat (IntKind.bits .u32)) = 31 := by decide
    have ef : Int.fdiv (d : Int) (2 ^ 31) = ((d / 2147483648 : Nat) : Int) := by
      rw [Int.fdiv_eq_ediv_of_nonneg _ (by decide)]; rfl
    rw [e31, ef]
    by_cases h2 : 2147483648 ≤ d
    · have g1 : ¬ d < 2139095040 := by omega
      have g2 : d / 2147483648 = 1 := by omega
      have g3 : ((d : Int) == 0) = false := by rw [beq_eq_false_iff_ne]; omega
      have g4 : ¬ ((d : Int) < 2147483648) := by omega
      simp only [if_pos h2, g2]
      simp [g1, g3, g4, hn]
    · have g1 : d < 2139095040 := by omega
      have g2 : d / 2147483648 = 0 := by omega
      simp only [if_neg h2, g2]
      by_cases h3 : d = 0
      · subst h3; simp [hn]
      · have g5 : 0 < d := by omega
        simp [g1, g5]
  · have g1 : ¬ d < 2139095040 := by omega
    rw [decide_eq_false h1, decide_eq_false g1]
    exact ⟨rfl, rfl⟩
theorem upto_eq {β : Type} (d m : Nat) (h : d < 4294967296) (hm : isN .f32 m = false) (F R : β) : cond (!(r100 d)) F (cond (fgt .f32 d m) F R) = cond (!(r85 d m)) F R := by
  unfold r85
  rw [(amount_eq d h).1, (amount_eq d h).2]
  by_cases h1 : d < 2139095040
  · have hn : isN .f32 d = false := by rw [isN32, decide_eq_false_iff_not]; omega
    rw [decide_eq_true h1, fgt_key .f32 d m hn hm, flt_key .f32 d m hn hm, feq_key .f32 d m hn hm]
    generalize key FloatKind.f32.format d = x
    generalize key FloatKind.f32.format m = y
    rcases Int.lt_trichotomy x y with g | g | g
    · have g2 : ¬ y < x := by omega
      simp [g, g2]
    · subst g; simp
    · have g2 : ¬ x < y := by omega
      have g3 : ¬ x = y := by omega
      simp [g, g2, g3]
  · rw [decide_eq_false h1]; rfl
theorem within_eq {β : Type} (d : Nat) (F R : β) : cond (fgt .f32 d 3262119936 || feq .f32 d 3262119936) (cond (!(flt .f32 d 1153138688 || feq .f32 d 1153138688)) F R) F = cond (!(r86 d 3262119936 1153138688)) F R := by
  unfold r86
  cases (fgt .f32 d 3262119936 || feq .f32 d 3262119936) <;> cases (flt .f32 d 1153138688 || feq .f32 d 1153138688) <;> rfl
theorem share_eq (d : Nat) (h : d < 4294967296) : r82 d = r77 d := by
  unfold r82 r77
  rw [(amount_eq d h).1, (amount_eq d h).2]

/-! ### a log -/
abbrev S18 : List CT := List.replicate 18 (.fl .f32)
/-- a column of a row -/
noncomputable def cl (r : List Int) (j : Nat) : Nat := Int.toNat (r.getD j 0)
noncomputable def okW (r : List Int) : Bool := r38 (cl r 0) (cl r 1) (cl r 2) (cl r 3) (cl r 4) (cl r 5) (cl r 6) (cl r 7) (cl r 8) (cl r 9) (cl r 10) (cl r 11) (cl r 12) (cl r 13) (cl r 14) (cl r 15) (cl r 16) (cl r 17)
noncomputable def sumF (r : List Int) : Nat := r60 (cl r 0) (cl r 1) (cl r 2) (cl r 3) (cl r 4) (cl r 5) (cl r 6) (cl r 7) (cl r 8) (cl r 9) (cl r 10) (cl r 11) (cl r 12) (cl r 13) (cl r 14) (cl r 15) (cl r 16) (cl r 17)
theorem cl_lt {r : List Int} (h : RowOk S18 r) {j : Nat} (hj : j < 18) : cl r j < 4294967296 := by
  have : S18[j]? = some (.fl .f32) := by show (List.replicate 18 (CT.fl .f32))[j]? = _; rw [List.getElem?_replicate, if_pos hj]
  exact (h.get this).lt32
theorem okS {rows : List (List Int)} (h : RowsOk S18 rows) {i : Nat} (hi : i < rows.length) : r57 i rows = (0, okW (rows.getD i [])) := by
  have hm : isN .f32 1092616192 = false := by decide
  have hr := h.get hi
  unfold r57
  rw [blt_t hi, cond_true]
  have e : ∀ j, Int.toNat ((rows.getD i []).getD j 0) = cl (rows.getD i []) j := fun _ => rfl
  simp only [e]
  simp only [within_eq, upto_eq _ _ (cl_lt hr (show 0 < 18 by decide)) hm, upto_eq _ _ (cl_lt hr (show 1 < 18 by decide)) hm, upto_eq _ _ (cl_lt hr (show 2 < 18 by decide)) hm, upto_eq _ _ (cl_lt hr (show 3 < 18 by decide)) hm,
    upto_eq _ _ (cl_lt hr (show 4 < 18 by decide)) hm, upto_eq _ _ (cl_lt hr (show 5 < 18 by decide)) hm, upto_eq _ _ (cl_lt hr (show 12 < 18 by decide)) hm, upto_eq _ _ (cl_lt hr (show 13 < 18 by decide)) hm,
    upto_eq _ _ (cl_lt hr (show 14 < 18 by decide)) hm, upto_eq _ _ (cl_lt hr (show 15 < 18 by decide)) hm, upto_eq _ _ (cl_lt hr (show 16 < 18 by decide)) hm, upto_eq _ _ (cl_lt hr (show 17 < 18 by decide)) hm, cond_pair]
  rfl
theorem sumS {rows : List (List Int)} {i : Nat} (hi : i < rows.length) : r58 i rows = (0, sumF (rows.getD i [])) := by
  unfold r58
  rw [blt_t hi]; rfl

/-! ### the loops -/
variable {rows : List (List Int)}
theorem copy_eq (h : RowsOk S18 rows) (hl : rows.length ≤ 1048576) : r63 rows = (0, rows) := by
  have key : ∀ fuel, rows.length < fuel → r63l0 fuel 0 rows (List.replicate rows.length ([0, 0, 0, 0, 0, 0, 0, 0, 0, 0, 0, 0, 0, 0, 0, 0, 0, 0] : List Int)) = (0, rows) := by
    intro fuel hf
    refine copy_loop (d := []) (mk := fun x => (0, x)) (G := fun m x i => r63l0 m i rows x) ?_ ?_ (by simp) hf
    · intro m x hx
      show b63l0 (r63l0 m) _ rows x = _
      unfold b63l0
      rw [dlt_f (Nat.lt_irrefl _)]; rfl
    · intro m i x hi hx
      show b63l0 (r63l0 m) _ rows x = _
      unfold b63l0
      rw [dlt_t hi, dle0, Int.toNat_natCast, blt_t hi, blt_t (by omega), wrap_succ (by omega)]
      exact congrArg (fun r => r63l0 m _ rows (x.set i r)) (reb_eq (h.get hi))
  unfold r63
  rw [key _ (by simp; omega)]
  have c1 : decide ((0 : Int) ≤ ((rows.length : Nat) : Int)) = true := dle0 _
  have c2 : decide ((((rows.length : Nat) : Int) : Int) ≤ ((rows.length : Nat) : Int)) = true := by simp
  have c3 : decide (((72 : Nat) : Int) * ((rows.length : Nat) : Int) ≤ 281474976710656) = true := by rw [decide_eq_true_eq]; omega
  have c4 : decide (((rows.length : Nat) : Int) ≤ 9223372036854775807) = true := by rw [decide_eq_true_eq]; omega
  rw [c1, c2, c3, c4]; rfl
theorem allS (h : RowsOk S18 rows) (hl : rows.length ≤ 1048576) (x1 x2 : Nat) (x3 x4 : Int) (x5 : Nat) {fuel : Nat} (hf : rows.length < fuel) : r62l0 fuel 0 x1 x2 x3 x4 x5 rows = cond (allN rows.length fun i => okW (rows.getD i [])) 1 0 := by
  refine all_loop (G := fun m i => r62l0 m i x1 x2 x3 x4 x5 rows) ?_ ?_ hf
  · intro m
    show b62l0 (r62l0 m) _ _ _ _ _ _ _ = _
    unfold b62l0
    rw [dlt_f (Nat.lt_irrefl _)]; rfl
  · intro m i hi
    show b62l0 (r62l0 m) _ _ _ _ _ _ _ = _
    unfold b62l0
    rw [dlt_t hi, dle0, Int.toNat_natCast, blt_t hi, wrap_succ (by omega), okS h hi]
    cases okW (rows.getD i []) <;> rfl
theorem allI (hl : rows.length ≤ 1048576) (x2 x3 : Nat) (x4 x5 : Int) (x6 : Nat) {fuel : Nat} (hf : rows.length < fuel) : r64l0 fuel ((rows.length : Nat) : Int) 0 x2 x3 x4 x5 x6 rows = cond (allN rows.length fun i => okW (rows.getD i [])) 1 0 := by
  refine all_loop (G := fun m i => r64l0 m ((rows.length : Nat) : Int) i x2 x3 x4 x5 x6 rows) ?_ ?_ hf
  · intro m
    show b64l0 (r64l0 m) _ _ _ _ _ _ _ _ = _
    unfold b64l0
    rw [dlt_f (Nat.lt_irrefl _)]; rfl
  · intro m i hi
    show b64l0 (r64l0 m) _ _ _ _ _ _ _ _ = _
    unfold b64l0
    rw [dlt_t hi, dle0, Int.toNat_natCast, blt_t hi, wrap_succ (by omega)]
    show cond true (cond (true && true) (cond (!(okW (rows.getD i []))) 0 _) _) _ = _
    cases okW (rows.getD i []) <;> rfl
theorem sameRows (hl : rows.length ≤ 1048576) : r66b rows rows = (0, true) := by
  have h36 : ∀ r : List Int, r101 (cl r 0) (cl r 1) (cl r 2) (cl r 3) (cl r 4) (cl r 5) (cl r 6) (cl r 7) (cl r 8) (cl r 9) (cl r 10) (cl r 11) (cl r 12) (cl r 13) (cl r 14) (cl r 15) (cl r 16) (cl r 17) (cl r 0) (cl r 1) (cl r 2) (cl r 3) (cl r 4) (cl r 5) (cl r 6) (cl r 7) (cl r 8) (cl r 9) (cl r 10) (cl r 11) (cl r 12) (cl r 13) (cl r 14) (cl r 15) (cl r 16) (cl r 17) = true := by
    intro r
    simp [r101, r120, same_self]
  have key : ∀ fuel, rows.length < fuel → r66l0b fuel 0 rows rows = 1 := by
    intro fuel hf
    have := all_loop (n := rows.length) (p := fun _ => true) (yes := 1) (no := 0) (G := fun m i => r66l0b m i rows rows) ?_ ?_ hf
    · rw [this, show allN rows.length (fun _ => true) = true from allN_true.2 (fun _ _ => rfl)]; rfl
    · intro m
      show b66l0b (r66l0b m) _ _ _ = _
      unfold b66l0b
      rw [dlt_f (Nat.lt_irrefl _)]; rfl
    · intro m i hi
      show b66l0b (r66l0b m) _ _ _ = _
      unfold b66l0b
      rw [dlt_t hi, dle0, Int.toNat_natCast, blt_t hi, wrap_succ (by omega)]
      have := h36 (rows.getD i [])
      unfold cl at this
      rw [this]; rfl
  unfold r66b
  rw [key _ (by omega)]
  simp [Nat.beq]

/-! ### the whole -/
theorem state_eq (x2 : Int) (R : Nat × Bool) (h1 : -128 ≤ x2) (h2 : x2 ≤ 127) : cond (!(r71 (IntKind.i64.wrap x2) 0 3)) (0, false) R = cond (decide (x2 ≥ 0)) (cond (decide (x2 ≤ 3)) R (0, false)) (0, false) := by
  unfold r71
  rw [wrap_i64 (by omega) (by omega)]
  cases decide (x2 ≥ 0) <;> cases decide (x2 ≤ 3) <;> rfl
theorem dust_eq {β : Type} (d : Nat) (h : d < 4294967296) (F R : β) : cond (!(r100 d)) F (cond (fgt .f32 d 1065353216 || feq .f32 d 1065353216) F R) = cond (r91 d) (cond (flt .f32 d 1065353216) R F) F := by
  have hm : isN .f32 1065353216 = false := by decide
  rw [(amount_eq d h).1, (amount_eq d h).2]
  by_cases h1 : d < 2139095040
  · have hn : isN .f32 d = false := by rw [isN32, decide_eq_false_iff_not]; omega
    rw [decide_eq_true h1, fgt_key .f32 d _ hn hm, flt_key .f32 d _ hn hm, feq_key .f32 d _ hn hm]
    generalize key FloatKind.f32.format d = x
    generalize key FloatKind.f32.format 1065353216 = y
    rcases Int.lt_trichotomy x y with g | g | g
    · have g2 : ¬ y < x := by omega
      have g3 : ¬ x = y := by omega
      simp [g, g2, g3]
    · subst g; simp
    · have g2 : ¬ x < y := by omega
      simp [g, g2]
  · rw [decide_eq_false h1]; rfl
/-- is a stove valid? -/
noncomputable def okStove (x0 x1 : Nat) (x2 x3 : Int) (x4 : Nat) (rows : List (List Int)) : Bool :=
  !decide (((rows.length : Nat) : Int) > 6) && (allN rows.length fun i => okW (rows.getD i [])) && r86 x0 3262119936 1153138688 && r77 x1 && decide (x2 ≥ 0) && decide (x2 ≤ 3) && decide (x3 ≥ 0) && decide (x3 ≤ 1000000) && r91 x4 && flt .f32 x4 1065353216
theorem validI (hl : rows.length ≤ 1048576) (x0 x1 : Nat) (x2 x3 : Int) (x4 : Nat) : r64 x0 x1 x2 x3 x4 rows = (0, okStove x0 x1 x2 x3 x4 rows) := by
  unfold r64 okStove
  rw [allI hl _ _ _ _ _ (by omega)]
  generalize allN rows.length (fun i => okW (rows.getD i [])) = A
  generalize decide (((rows.length : Nat) : Int) > 6) = b0
  generalize r86 x0 3262119936 1153138688 = b1
  generalize r77 x1 = b2
  generalize decide (x2 ≥ 0) = b3
  generalize decide (x2 ≤ 3) = b4
  generalize decide (x3 ≥ 0) = b5
  generalize decide (x3 ≤ 1000000) = b6
  generalize r91 x4 = b7
  generalize flt .f32 x4 1065353216 = b8
  cases b0 <;> cases A <;> try rfl
  cases b1 <;> try rfl
  cases b2 <;> try rfl
  cases b3 <;> try rfl
  cases b4 <;> try rfl
  cases b5 <;> try rfl
  cases b6 <;> try rfl
  cases b7 <;> rfl
theorem validS (h : RowsOk S18 rows) (hl : rows.length ≤ 1048576) (x0 x1 : Nat) (x2 x3 : Int) (x4 : Nat) (h1 : x1 < 4294967296) (h2 : -128 ≤ x2 ∧ x2 ≤ 127) (h4 : x4 < 4294967296) : r62 x0 x1 x2 x3 x4 rows = (0, okStove x0 x1 x2 x3 x4 rows) := by
  unfold r62 okStove
  rw [allS h hl _ _ _ _ _ (by omega), share_eq x1 h1, state_eq x2 _ h2.1 h2.2, dust_eq x4 h4, within_eq]
  have e : r71 x3 0 1000000 = (decide (x3 ≥ 0) && decide (x3 ≤ 1000000)) := by
    unfold r71
    cases decide (x3 ≥ 0) <;> rfl
  rw [e]
  generalize allN rows.length (fun i => okW (rows.getD i [])) = A
  generalize decide (((rows.length : Nat) : Int) > 6) = b0
  generalize r86 x0 3262119936 1153138688 = b1
  generalize r77 x1 = b2
  generalize decide (x2 ≥ 0) = b3
  generalize decide (x2 ≤ 3) = b4
  generalize decide (x3 ≥ 0) = b5
  generalize decide (x3 ≤ 1000000) = b6
  generalize r91 x4 = b7
  generalize flt .f32 x4 1065353216 = b8
  cases b0 <;> try rfl
  cases b1 <;> try (cases A <;> rfl)
  cases b2 <;> try (cases A <;> rfl)
  cases b3 <;> try (cases A <;> rfl)
  cases b4 <;> try (cases A <;> rfl)
  cases b5 <;> try (cases A <;> rfl)
  cases b6 <;> try (cases A <;> rfl)
  cases b7 <;> try (cases A <;> rfl)
  cases b8 <;> cases A <;> rfl
theorem stove_same (hl : rows.length ≤ 1048576) (x0 x1 : Nat) (x2 x3 : Int) (x4 : Nat) : r23b x0 x1 x2 x3 x4 x0 x1 x2 x3 x4 rows rows = (0, true) := by
  unfold r23b
  rw [sameRows hl]
  simp [same_self, Nat.beq]
theorem szS_eq (x0 x1 : Nat) (x2 x3 : Int) (x4 : Nat) (hs : decide (r19 x0 x1 x2 x3 x4 1048576 rows < 0) = false) (hl : rows.length ≤ 9223372036854775807) : rows.length ≤ 1048576 := by
  unfold r19 r61 at hs
  rw [wrap_i64 (by omega) (by omega)] at hs
  apply Nat.le_of_not_lt
  intro hlt
  have : decide ((1048576 : Int) - ((rows.length : Nat) : Int) < 0) = true := by rw [decide_eq_true_eq]; omega
  rw [this] at hs
  simp at hs

/-! ### what is kept -/
noncomputable def keepR (rows : List (List Int)) (i : Nat) : Bool := !flt .f32 (sumF (rows.getD i [])) 1015021568
theorem amount_le {d : Nat} (h : r85 d 1092616192 = true) (hd : d < 4294967296) : d ≤ 2139095040 := by
  unfold r85 at h
  rw [(amount_eq d hd).1] at h
  by_cases h1 : d < 2139095040
  · omega
  · rw [decide_eq_false h1] at h; cases h
theorem cond_not {a b : Bool} (h : cond (!a) false b = true) : a = true ∧ b = true := by cases a <;> cases b <;> first | exact ⟨rfl, rfl⟩ | cases h
theorem sum_pos {r : List Int} (hr : RowOk S18 r) (h : okW r = true) : sumF r ≤ 2139095040 := by
  unfold okW r38 at h
  obtain ⟨_, h⟩ := cond_not h
  obtain ⟨q0, h⟩ := cond_not h
  obtain ⟨_, h⟩ := cond_not h
  obtain ⟨_, h⟩ := cond_not h
  obtain ⟨q1, h⟩ := cond_not h
  obtain ⟨_, h⟩ := cond_not h
  obtain ⟨_, h⟩ := cond_not h
  obtain ⟨q2, h⟩ := cond_not h
  obtain ⟨_, h⟩ := cond_not h
  obtain ⟨_, h⟩ := cond_not h
  obtain ⟨q3, h⟩ := cond_not h
  obtain ⟨_, h⟩ := cond_not h
  obtain ⟨_, h⟩ := cond_not h
  obtain ⟨q4, h⟩ := cond_not h
  obtain ⟨_, h⟩ := cond_not h
  obtain ⟨_, h⟩ := cond_not h
  obtain ⟨q5, h⟩ := cond_not h
  have a0 := amount_le q0 (cl_lt hr (by decide))
  have a1 := amount_le q1 (cl_lt hr (by decide))
  have a2 := amount_le q2 (cl_lt hr (by decide))
  have a3 := amount_le q3 (cl_lt hr (by decide))
  have a4 := amount_le q4 (cl_lt hr (by decide))
  have a5 := amount_le q5 (cl_lt hr (by decide))
  exact fadd_pos (fadd_pos (fadd_pos (fadd_pos (fadd_pos a0 a1) a2) a3) a4) a5
theorem keep_eq {s : Nat} (h : s ≤ 2139095040) : (fgt .f32 s 1015021568 || feq .f32 s 1015021568) = !flt .f32 s 1015021568 := by
  have hn : isN .f32 s = false := by rw [isN32, decide_eq_false_iff_not]; omega
  have hm : isN .f32 1015021568 = false := by decide
  rw [fgt_key .f32 s _ hn hm, flt_key .f32 s _ hn hm, feq_key .f32 s _ hn hm]
  generalize key FloatKind.f32.format s = x
  generalize key FloatKind.f32.format 1015021568 = y
  rcases Int.lt_trichotomy x y with g | g | g
  · have g2 : ¬ y < x := by omega
    have g3 : ¬ x = y := by omega
    simp [g, g2, g3]
  · subst g; simp
  · have g2 : ¬ x < y := by omega
    simp [g, g2]
/-- what is left of the rows from place 'i' on -/
noncomputable def kept (rows : List (List Int)) (i k : Nat) : List (List Int) := ((List.range' i k).filter (keepR rows)).map fun j => rows.getD j []
noncomputable def ansK (acc ks : List (List Int)) : Nat × List (List Int) := match ks with
  | [] => (1, [])
  | _ :: _ => (0, acc ++ ks)
theorem kept_succ (i k : Nat) : kept rows i (k + 1) = cond (keepR rows i) (rows.getD i [] :: kept rows (i + 1) k) (kept rows (i + 1) k) := by
  unfold kept
  rw [List.range'_succ, List.filter_cons]
  cases keepR rows i <;> rfl
theorem filterS (h : RowsOk S18 rows) (hl : rows.length ≤ 1048576) (hok : ∀ i, i < rows.length → okW (rows.getD i []) = true) (x1 x2 : Nat) (x3 x4 : Int) (x5 x6 x7 x8 x9 x10 : Nat) (x11 x12 : Int) (x13 : Nat) :
    ∀ (k i fuel : Nat) (acc : List (List Int)), i + k = rows.length → k < fuel → acc.length ≤ i → r24l0 fuel (i : Int) x1 x2 x3 x4 x5 x6 x7 x8 x9 x10 x11 x12 x13 rows acc = ansK acc (kept rows i k) := by
  intro k
  induction k with
  | zero =>
    intro i fuel acc hi hf _
    obtain ⟨m, rfl⟩ : ∃ m, fuel = m + 1 := ⟨fuel - 1, by omega⟩
    show b24l0 (r24l0 m) _ _ _ _ _ _ _ _ _ _ _ _ _ _ _ _ = _
    unfold b24l0
    rw [dlt_f (by omega)]; rfl
  | succ k ih =>
    intro i fuel acc hi hf ha
    obtain ⟨m, rfl⟩ : ∃ m, fuel = m + 1 := ⟨fuel - 1, by omega⟩
    have hlt : i < rows.length := by omega
    have e1 := ih (i + 1) m acc (by omega) (by omega) (by omega)
    have e2 := ih (i + 1) m (acc ++ [rows.getD i []]) (by omega) (by omega) (by simp; omega)
    have er : ([((Int.toNat ((rows.getD i []).getD 0 0) : Nat) : Int), ((Int.toNat ((rows.getD i []).getD 1 0) : Nat) : Int), ((Int.toNat ((rows.getD i []).getD 2 0) : Nat) : Int), ((Int.toNat ((rows.getD i []).getD 3 0) : Nat) : Int), ((Int.toNat ((rows.getD i []).getD 4 0) : Nat) : Int), ((Int.toNat ((rows.getD i []).getD 5 0) : Nat) : Int), ((Int.toNat ((rows.getD i []).getD 6 0) : Nat) : Int), ((Int.toNat ((rows.getD i []).getD 7 0) : Nat) : Int), ((Int.toNat ((rows.getD i []).getD 8 0) : Nat) : Int), ((Int.toNat ((rows.getD i []).getD 9 0) : Nat) : Int), ((Int.toNat ((rows.getD i []).getD 10 0) : Nat) : Int), ((Int.toNat ((rows.getD i []).getD 11 0) : Nat) : Int), ((Int.toNat ((rows.getD i []).getD 12 0) : Nat) : Int), ((Int.toNat ((rows.getD i []).getD 13 0) : Nat) : Int), ((Int.toNat ((rows.getD i []).getD 14 0) : Nat) : Int), ((Int.toNat ((rows.getD i []).getD 15 0) : Nat) : Int), ((Int.toNat ((rows.getD i []).getD 16 0) : Nat) : Int), ((Int.toNat ((rows.getD i []).getD 17 0) : Nat) : Int)] : List Int) = rows.getD i [] := reb_eq (h.get hlt)
    show b24l0 (r24l0 m) _ _ _ _ _ _ _ _ _ _ _ _ _ _ _ _ = _
    unfold b24l0
    rw [dlt_t hlt, dle0, Int.toNat_natCast, blt_t hlt, wrap_succ (by omega), sumS hlt, er, show (acc.drop 0).take acc.length = acc from by simp, e1, e2, show Nat.ble ((acc.length + 1) * 73) 140737488355328 = true from Nat.ble_eq_true_of_le (by omega), kept_succ]
    simp only [keep_eq (sum_pos (h.get hlt) (hok i hlt))]
    rw [show (!flt .f32 (sumF (rows.getD i [])) 1015021568) = keepR rows i from rfl]
    cases keepR rows i with
    | false => rfl
    | true =>
      cases hk : kept rows (i + 1) k with
      | nil => simp [ansK, Nat.beq]
      | cons a l => simp [ansK, Nat.beq]
theorem filterI (h : RowsOk S18 rows) (hl : rows.length ≤ 1048576) (x2 x3 : Nat) (x4 x5 : Int) (x6 x7 x8 x9 : Nat) :
    ∀ (k i fuel : Nat) (acc : List (List Int)), i + k = rows.length → k < fuel → acc.length ≤ i → r25l0 fuel ((rows.length : Nat) : Int) (i : Int) x2 x3 x4 x5 x6 x7 x8 x9 acc rows = ansK acc (kept rows i k) := by
  intro k
  induction k with
  | zero =>
    intro i fuel acc hi hf _
    obtain ⟨m, rfl⟩ : ∃ m, fuel = m + 1 := ⟨fuel - 1, by omega⟩
    show b25l0 (r25l0 m) _ _ _ _ _ _ _ _ _ _ _ _ = _
    unfold b25l0
    rw [dlt_f (by omega)]; rfl
  | succ k ih =>
    intro i fuel acc hi hf ha
    obtain ⟨m, rfl⟩ : ∃ m, fuel = m + 1 := ⟨fuel - 1, by omega⟩
    have hlt : i < rows.length := by omega
    have e1 := ih (i + 1) m acc (by omega) (by omega) (by omega)
    have e2 := ih (i + 1) m (acc ++ [rows.getD i []]) (by omega) (by omega) (by simp; omega)
    have er : ([((Int.toNat ((rows.getD i []).getD 0 0) : Nat) : Int), ((Int.toNat ((rows.getD i []).getD 1 0) : Nat) : Int), ((Int.toNat ((rows.getD i []).getD 2 0) : Nat) : Int), ((Int.toNat ((rows.getD i []).getD 3 0) : Nat) : Int), ((Int.toNat ((rows.getD i []).getD 4 0) : Nat) : Int), ((Int.toNat ((rows.getD i []).getD 5 0) : Nat) : Int), ((Int.toNat ((rows.getD i []).getD 6 0) : Nat) : Int), ((Int.toNat ((rows.getD i []).getD 7 0) : Nat) : Int), ((Int.toNat ((rows.getD i []).getD 8 0) : Nat) : Int), ((Int.toNat ((rows.getD i []).getD 9 0) : Nat) : Int), ((Int.toNat ((rows.getD i []).getD 10 0) : Nat) : Int), ((Int.toNat ((rows.getD i []).getD 11 0) : Nat) : Int), ((Int.toNat ((rows.getD i []).getD 12 0) : Nat) : Int), ((Int.toNat ((rows.getD i []).getD 13 0) : Nat) : Int), ((Int.toNat ((rows.getD i []).getD 14 0) : Nat) : Int), ((Int.toNat ((rows.getD i []).getD 15 0) : Nat) : Int), ((Int.toNat ((rows.getD i []).getD 16 0) : Nat) : Int), ((Int.toNat ((rows.getD i []).getD 17 0) : Nat) : Int)] : List Int) = rows.getD i [] := reb_eq (h.get hlt)
    show b25l0 (r25l0 m) _ _ _ _ _ _ _ _ _ _ _ _ = _
    unfold b25l0
    rw [dlt_t hlt, dle0, Int.toNat_natCast, blt_t hlt, wrap_succ (by omega), er, show (acc.drop 0).take acc.length = acc from by simp, e1, e2, show Nat.ble ((acc.length + 1) * 73) 140737488355328 = true from Nat.ble_eq_true_of_le (by omega), kept_succ]
    show cond true (cond (true && true) (cond (keepR rows i) _ _) _) _ = _
    cases keepR rows i with
    | false => rfl
    | true =>
      cases hk : kept rows (i + 1) k with
      | nil => simp [ansK, Nat.beq]
      | cons a l => simp [ansK, Nat.beq]
end Go.Proofs.Ytbmagccjcccnaaa
