/- Chimneys: smoke. -/
import Derived.Test.YtdpkbkmmlbmllaaPcd5
import Derived.Test.YtdpkbkmmlbmllaaCd7
import Derived.Test.YtdpkbkmmlbmllaaA33
namespace Go.Proofs.Ytdpkbkmmlbmllaa
open Go.Ab Ieee

abbrev S1 : List CT := [.fl .f32]
theorem copy42 {rows : List (List Int)} (h : RowsOk S1 rows) (hl : rows.length ≤ 1048576) : r42 rows = (0, rows) := by
  have key : ∀ fuel, rows.length < fuel → r42l0 fuel 0 rows (List.replicate rows.length ([0] : List Int)) = (0, rows) := by
    intro fuel hf
    refine copy_loop (d := []) (mk := fun x => (0, x)) (G := fun m x i => r42l0 m i rows x) ?_ ?_ (by simp) hf
    · intro m x hx
      show b42l0 (r42l0 m) _ rows x = _
      unfold b42l0
      rw [dlt_f (Nat.lt_irrefl _)]; rfl
    · intro m i x hi hx
      show b42l0 (r42l0 m) _ rows x = _
      unfold b42l0
      rw [dlt_t hi, dle0, Int.toNat_natCast, blt_t hi, blt_t (by omega), wrap_succ (by omega)]
      exact congrArg (fun r => r42l0 m _ rows (x.set i r)) (reb_eq (h.get hi))
  unfold r42
  rw [key _ (by simp; omega)]
  have c1 : decide ((0 : Int) ≤ ((rows.length : Nat) : Int)) = true := dle0 _
  have c2 : decide ((((rows.length : Nat) : Int) : Int) ≤ ((rows.length : Nat) : Int)) = true := by simp
  have c3 : decide (((4 : Nat) : Int) * ((rows.length : Nat) : Int) ≤ 281474976710656) = true := by rw [decide_eq_true_eq]; omega
  have c4 : decide (((rows.length : Nat) : Int) ≤ 9223372036854775807) = true := by rw [decide_eq_true_eq]; omega
  rw [c1, c2, c3, c4]; rfl
/-! ### what may be asked -/
theorem smokeS {t S : List (List Int)} (hl : S.length ≤ 1048576) : r84 t S = (0, allN S.length (fun i => r109 (fc S i 0)) && decide (S.length = t.length)) := by
  have lp : r84l0 (1000 + S.length + t.length) 0 t S = cond (allN S.length (fun i => r109 (fc S i 0))) 1 0 := by
    refine all_loop (n := S.length) (p := fun i => r109 (fc S i 0)) (yes := 1) (no := 0) (G := fun m i => r84l0 m i t S) ?_ ?_ (by omega)
    · intro m
      show b84l0 (r84l0 m) _ _ _ = _
      unfold b84l0
      rw [dlt_f (Nat.lt_irrefl _)]; rfl
    · intro m i hi
      show b84l0 (r84l0 m) _ _ _ = _
      unfold b84l0
      rw [dlt_t hi, dle0, Int.toNat_natCast, blt_t hi, wrap_succ (by omega)]
      show cond true (cond (!r109 (fc S i 0)) _ _) _ = _
      cases r109 (fc S i 0) <;> rfl
  have e : ((((S.length : Nat) : Int) : Int) == ((t.length : Nat) : Int)) = decide (S.length = t.length) := by
    by_cases h : S.length = t.length
    · rw [decide_eq_true h, beq_iff_eq]; omega
    · rw [decide_eq_false h, beq_eq_false_iff_ne]; omega
  unfold r84
  rw [lp, e]
  cases allN S.length (fun i => r109 (fc S i 0)) <;> rfl
theorem smokeI {t S : List (List Int)} (hl : S.length ≤ 1048576) : r81 t S = (0, allN S.length (fun i => r109 (fc S i 0)) && decide (S.length = t.length)) := by
  have lp : r81l0 (1000 + S.length) ((S.length : Nat) : Int) 0 S = cond (allN S.length (fun i => r109 (fc S i 0))) 1 0 := by
    refine all_loop (n := S.length) (p := fun i => r109 (fc S i 0)) (yes := 1) (no := 0) (G := fun m i => r81l0 m ((S.length : Nat) : Int) i S) ?_ ?_ (by omega)
    · intro m
      show b81l0 (r81l0 m) _ _ _ = _
      unfold b81l0
      rw [dlt_f (Nat.lt_irrefl _)]; rfl
    · intro m i hi
      show b81l0 (r81l0 m) _ _ _ = _
      unfold b81l0
      rw [dlt_t hi, dle0, Int.toNat_natCast, blt_t hi, wrap_succ (by omega)]
      show cond true (cond (!r108 (fc S i 0) 3262119936 1153138688) _ _) _ = _
      rw [← hot_eq]
      cases r109 (fc S i 0) <;> rfl
  unfold r81
  rw [lp, bne_len]
  by_cases h : S.length = t.length
  · rw [decide_eq_true h, decide_eq_true h.symm]
    cases allN S.length (fun i => r109 (fc S i 0)) <;> rfl
  · rw [decide_eq_false h, decide_eq_false (show ¬ t.length = S.length by omega)]
    cases allN S.length (fun i => r109 (fc S i 0)) <;> rfl
theorem time_eq (a : Nat) (h : a < 4294967296) : r105 a = r72 a := by
  unfold r105 r72
  rw [(amount_eq a h).1, (amount_eq a h).2]
theorem warm_both {t S : List (List Int)} (h : RowsOk S5 t) (hl : t.length ≤ 1048576) (hS : S.length ≤ 1048576) (o w a : Nat) (ho : o < 4294967296) (hw : w < 4294967296) (ha : a < 4294967296) : ∃ c, r77 o w a t S = (0, c) ∧ r79 o w a t S = (0, c) ∧ (c ≠ 0 ∨ (c = 0 ∧ ChOk t ∧ WOk o w ∧ S.length = t.length)) := by
  obtain ⟨c, e1, e2, hc⟩ := code_both h hl o w ho hw
  unfold r77 r79
  rw [e1, e2, smokeS hS, smokeI hS, time_eq a ha]
  rcases hc with hc | ⟨rfl, ck, wk⟩
  · refine ⟨c, ?_, ?_, .inl hc⟩ <;> simp only [Nat.beq, cond_true] <;> rw [show (c != 0) = true from bne_iff_ne.2 hc] <;> rfl
  · cases allN S.length (fun i => r109 (fc S i 0)) with
    | false => exact ⟨2, rfl, rfl, .inl (by decide)⟩
    | true =>
      by_cases h : S.length = t.length
      · rw [decide_eq_true h]
        cases r72 a with
        | false => exact ⟨2, rfl, rfl, .inl (by decide)⟩
        | true => exact ⟨0, rfl, rfl, .inr ⟨rfl, ck, wk, h⟩⟩
      · rw [decide_eq_false h]
        exact ⟨2, rfl, rfl, .inl (by decide)⟩

/-! ### what comes into a flue -/
/-- the heat of branches, and what comes out of them -/
noncomputable def hotS (t F B : List (List Int)) (j : Nat) (p : Nat × Nat) : Nat × Nat := cond (fgt .f32 (fc F (fc B j 0) 0) 0) (fadd .f32 p.1 (fmul .f32 (fc F (fc B j 0) 0) (fc t (fc B j 0) 2)), fadd .f32 p.2 (fc F (fc B j 0) 0)) p
noncomputable def hots (t F : List (List Int)) (i : Nat) : Nat × Nat := foldN (hotS t F (brs t (i : Int))) (brs t (i : Int)).length 0 (0, 0)
noncomputable def intoV (t S F : List (List Int)) (o i : Nat) : Nat :=
  cond (flt .f32 (fc F i 0) 0) o (if (brs t (i : Int)).length = 0 then fc S i 0 else cond (fgt .f32 (hots t F i).2 0) (fdiv .f32 (hots t F i).1 (hots t F i).2) (fc t i 2))
noncomputable def intos (t S F : List (List Int)) (o : Nat) : List (List Int) := (List.range t.length).map fun i => [((intoV t S F o i : Nat) : Int)]
theorem intos_len (t S F : List (List Int)) (o : Nat) : (intos t S F o).length = t.length := by unfold intos; simp
theorem intos_get {t S F : List (List Int)} {o i : Nat} (hi : i < t.length) : fc (intos t S F o) i 0 = intoV t S F o i := by
  show Int.toNat (((intos t S F o).getD i []).getD 0 0) = _
  unfold intos
  rw [map_getD hi]; rfl
theorem appR_eq {α : Type} (r : Nat × List α) (s : List α) : cond (Nat.beq r.1 0) (0, r.2) (cond (Nat.beq r.1 1) (0, s) (2, [])) = appR r s := rfl
section
variable {t S F : List (List Int)} (hc : ChOk t) (hS : S.length = t.length) (hF : F.length = t.length)
include hc hF
theorem hotsS {o i : Nat} (x8 : List (List Int)) {fuel : Nat} (hf : (brs t (i : Int)).length < fuel) : r86l1 fuel o (i : Int) 0 0 0 t S F x8 (brs t (i : Int)) = (0, (hots t F i).1, (hots t F i).2) := by
  have hn := brs_len t (i : Int)
  have h6 := hc.n2
  refine fold_at (n := (brs t (i : Int)).length) (step := hotS t F (brs t (i : Int))) (mk := fun p => (0, p.1, p.2)) (G := fun f p k => r86l1 f o (i : Int) p.1 p.2 k t S F x8 (brs t (i : Int))) ?_ ?_ (brs t (i : Int)).length 0 fuel (0, 0) (by omega) (by omega)
  · intro f p
    show b86l1 (r86l1 f) _ _ _ _ _ _ _ _ _ _ = _
    unfold b86l1
    rw [dlt_f (Nat.lt_irrefl _)]; rfl
  · intro f j p hj
    show b86l1 (r86l1 f) _ _ _ _ _ _ _ _ _ _ = _
    unfold b86l1 hotS
    obtain ⟨q, hq, e, _⟩ := brs_get hj
    have e' : ((brs t (i : Int)).getD j []).getD 0 0 = (q : Int) := e
    rw [dlt_t hj, dle0, Int.toNat_natCast, blt_t hj, wrap_succ (by omega), fc_of e]
    simp only [e', Int.toNat_natCast]
    rw [dle0, blt_t hq, blt_t (show q < F.length by omega)]
    cases fgt .f32 (fc F q 0) 0 <;> rfl
theorem hotsI {o i : Nat} (x4 : Int) (x10 : List (List Int)) (x11 x12 x13 x14 : Nat) (x15 : Int) {fuel : Nat} (hf : (brs t (i : Int)).length < fuel) : r82l1 fuel o 0 0 x4 (i : Int) (((brs t (i : Int)).length : Nat) : Int) 0 t S F x10 x11 x12 x13 x14 x15 (brs t (i : Int)) = (0, (hots t F i).1, (hots t F i).2) := by
  have hn := brs_len t (i : Int)
  have h6 := hc.n2
  refine fold_at (n := (brs t (i : Int)).length) (step := hotS t F (brs t (i : Int))) (mk := fun p => (0, p.1, p.2)) (G := fun f p k => r82l1 f o p.1 p.2 x4 (i : Int) (((brs t (i : Int)).length : Nat) : Int) k t S F x10 x11 x12 x13 x14 x15 (brs t (i : Int))) ?_ ?_ (brs t (i : Int)).length 0 fuel (0, 0) (by omega) (by omega)
  · intro f p
    show b82l1 (r82l1 f) _ _ _ _ _ _ _ _ _ _ _ _ _ _ _ _ _ = _
    unfold b82l1
    rw [dlt_f (Nat.lt_irrefl _)]; rfl
  · intro f j p hj
    show b82l1 (r82l1 f) _ _ _ _ _ _ _ _ _ _ _ _ _ _ _ _ _ = _
    unfold b82l1 hotS
    obtain ⟨q, hq, e, _⟩ := brs_get hj
    have e' : ((brs t (i : Int)).getD j []).getD 0 0 = (q : Int) := e
    rw [dlt_t hj, dle0, Int.toNat_natCast, blt_t hj, wrap_succ (by omega), fc_of e]
    simp only [e', Int.toNat_natCast]
    rw [dle0, blt_t hq, blt_t (show q < F.length by omega)]
    cases fgt .f32 (fc F q 0) 0 <;> rfl
omit hF in
theorem no_brs {i : Nat} (hi : i < t.length) (h : ic t i 4 ≠ -1) : (brs t (i : Int)).length = 0 := by
  refine Nat.eq_zero_of_not_pos fun hp => ?_
  obtain ⟨q, hq, _, e⟩ := brs_get hp
  rcases hc.into q hq with g | ⟨_, _, _, g⟩
  · omega
  · rw [e] at g
    exact h g
include hS
theorem intoS (o : Nat) : r86 o t S F = (0, intos t S F o) := by
  have n1 := hc.n1
  have n2 := hc.n2
  have lp := app_loop (n := t.length) (f := fun i => some [((intoV t S F o i : Nat) : Int)]) (G := fun m s i => r86l0 m o i t S F s) (fuel := 1000 + 0 + F.length + S.length + t.length) ?_ ?_ (by omega)
  · have em : (List.range t.length).filterMap (fun i => some [((intoV t S F o i : Nat) : Int)]) = intos t S F o := congrFun List.filterMap_eq_map' _
    rw [em] at lp
    unfold r86
    rcases lp with e | ⟨_, e'⟩
    · have e2 : r86l0 (1000 + 0 + F.length + S.length + t.length) o 0 t S F [] = _ := e
      rw [e2]; rfl
    · have := congrArg List.length e'
      rw [intos_len] at this
      exact absurd this (by show ¬ t.length = 0; omega)
  · intro m s
    show b86l0 (r86l0 m) _ _ _ _ _ _ = _
    unfold b86l0
    rw [dlt_f (Nat.lt_irrefl _)]; rfl
  · intro m i s hi hs
    show b86l0 (r86l0 m) _ _ _ _ _ _ = _
    have hn := brs_len t (i : Int)
    have hh := hotsS (S := S) hc hF (o := o) (i := i) s (fuel := 1000 + (brs t (i : Int)).length + s.length + F.length + S.length + t.length) (by omega)
    unfold b86l0 intoV
    simp only [take_all, Int.toNat_natCast, brS n2 (i : Int), hh, appR_eq]
    rw [dlt_t hi, dle0, blt_t hi, blt_t (show i < F.length by omega), blt_t (show i < S.length by omega), wrap_succ (by omega), show Nat.ble ((s.length + 1) * 5) 140737488355328 = true from Nat.ble_eq_true_of_le (by omega)]
    show cond (ic t i 4 == -1) _ _ = _
    by_cases h1 : ic t i 4 = -1
    · rw [show (ic t i 4 == -1) = true from by rw [h1]; rfl]
      show cond true (cond true (cond (flt .f32 (fc F i 0) 0) _ _) _) _ = _
      cases flt .f32 (fc F i 0) 0 with
      | true => rfl
      | false =>
        by_cases h0 : (brs t (i : Int)).length = 0
        · rw [if_pos h0, h0]; rfl
        · rw [if_neg h0]
          show cond ((((brs t (i : Int)).length : Nat) : Int) == 0) _ _ = _
          rw [show ((((brs t (i : Int)).length : Nat) : Int) == 0) = false from beq_eq_false_iff_ne.2 (by omega)]
          cases fgt .f32 (hots t F i).2 0 <;> rfl
    · rw [show (ic t i 4 == -1) = false from beq_eq_false_iff_ne.2 h1, if_pos (no_brs hc hi h1)]
      simp only [cond_true, cond_false, Nat.beq, Bool.and_self]
      cases flt .f32 (fc F i 0) 0 <;> rfl
theorem intoI (o : Nat) : r82 o t S F = (0, intos t S F o) := by
  have n1 := hc.n1
  have n2 := hc.n2
  have lp := app_loop (n := t.length) (f := fun i => some [((intoV t S F o i : Nat) : Int)]) (G := fun m s i => r82l0 m o ((t.length : Nat) : Int) i t S F s) (fuel := 1000 + 0 + F.length + S.length + t.length) ?_ ?_ (by omega)
  · have em : (List.range t.length).filterMap (fun i => some [((intoV t S F o i : Nat) : Int)]) = intos t S F o := congrFun List.filterMap_eq_map' _
    rw [em] at lp
    unfold r82
    rcases lp with e | ⟨_, e'⟩
    · have e2 : r82l0 (1000 + 0 + F.length + S.length + t.length) o ((t.length : Nat) : Int) 0 t S F [] = _ := e
      rw [e2]; rfl
    · have := congrArg List.length e'
      rw [intos_len] at this
      exact absurd this (by show ¬ t.length = 0; omega)
  · intro m s
    show b82l0 (r82l0 m) _ _ _ _ _ _ _ = _
    unfold b82l0
    rw [dlt_f (Nat.lt_irrefl _)]; rfl
  · intro m i s hi hs
    show b82l0 (r82l0 m) _ _ _ _ _ _ _ = _
    have hn := brs_len t (i : Int)
    have hh := hotsI (S := S) hc hF (o := o) (i := i) ((t.length : Nat) : Int) s (fc t i 0) (fc t i 1) (fc t i 2) (fc t i 3) (ic t i 4) (fuel := 1000 + (brs t (i : Int)).length + s.length + F.length + S.length + t.length) (by omega)
    unfold b82l0 intoV
    simp only [take_all, Int.toNat_natCast, brI n2 (i : Int), hh, appR_eq]
    rw [dlt_t hi, dle0, blt_t hi, blt_t (show i < F.length by omega), blt_t (show i < S.length by omega), wrap_succ (by omega), show Nat.ble ((s.length + 1) * 5) 140737488355328 = true from Nat.ble_eq_true_of_le (by omega)]
    show cond true (cond true (cond (flt .f32 (fc F i 0) 0) _ _) _) _ = _
    cases flt .f32 (fc F i 0) 0 with
    | true => rfl
    | false =>
      by_cases h0 : (brs t (i : Int)).length = 0
      · rw [if_pos h0, h0]; rfl
      · rw [if_neg h0]
        show cond ((((brs t (i : Int)).length : Nat) : Int) == 0) _ _ = _
        rw [show ((((brs t (i : Int)).length : Nat) : Int) == 0) = false from beq_eq_false_iff_ne.2 (by omega)]
        cases fgt .f32 (hots t F i).2 0 <;> rfl
end
/-! ### are all numbers? -/
noncomputable def fins (l : List (List Int)) : Bool := allN l.length fun i => decide (fc l i 0 % 2147483648 < 2139095040)
theorem finsS {l : List (List Int)} (hl : l.length ≤ 1048576) : r85 l = (0, fins l) := by
  have lp : r85l0 (1000 + l.length) 0 l = cond (fins l) 1 0 := by
    refine all_loop (n := l.length) (p := fun i => decide (fc l i 0 % 2147483648 < 2139095040)) (yes := 1) (no := 0) (G := fun m i => r85l0 m i l) ?_ ?_ (by omega)
    · intro m
      show b85l0 (r85l0 m) _ _ = _
      unfold b85l0
      rw [dlt_f (Nat.lt_irrefl _)]; rfl
    · intro m i hi
      show b85l0 (r85l0 m) _ _ = _
      unfold b85l0
      rw [dlt_t hi, dle0, Int.toNat_natCast, blt_t hi, wrap_succ (by omega), fin_spec]
      show cond true (cond (!decide (fc l i 0 % 2147483648 < 2139095040)) _ _) _ = _
      cases decide (fc l i 0 % 2147483648 < 2139095040) <;> rfl
  unfold r85
  rw [lp]
  cases fins l <;> rfl
theorem finsI {l : List (List Int)} (hl : l.length ≤ 1048576) : r56b l = (0, fins l) := by
  have lp : r56l0c (1000 + l.length) ((l.length : Nat) : Int) 0 l = cond (fins l) 1 0 := by
    refine all_loop (n := l.length) (p := fun i => decide (fc l i 0 % 2147483648 < 2139095040)) (yes := 1) (no := 0) (G := fun m i => r56l0c m ((l.length : Nat) : Int) i l) ?_ ?_ (by omega)
    · intro m
      show b56l0c (r56l0c m) _ _ _ = _
      unfold b56l0c
      rw [dlt_f (Nat.lt_irrefl _)]; rfl
    · intro m i hi
      show b56l0c (r56l0c m) _ _ _ = _
      unfold b56l0c
      have e56 : r56 (fc l i 0) = cond (r94 (widen (fc l i 0))) false (cond (r95 (widen (fc l i 0)) 0) false true) := by unfold r56 r56l0b; cases r94 (widen (fc l i 0)) <;> cases r95 (widen (fc l i 0)) 0 <;> rfl
      rw [dlt_t hi, dle0, Int.toNat_natCast, blt_t hi, wrap_succ (by omega), ← fin_impl, e56]
      show cond true (cond (r94 (widen (fc l i 0))) 0 (cond (r95 (widen (fc l i 0)) 0) 0 _)) _ = _
      cases r94 (widen (fc l i 0)) <;> cases r95 (widen (fc l i 0)) 0 <;> rfl
  unfold r56b
  rw [lp]
  cases fins l <;> rfl
end Go.Proofs.Ytdpkbkmmlbmllaa
