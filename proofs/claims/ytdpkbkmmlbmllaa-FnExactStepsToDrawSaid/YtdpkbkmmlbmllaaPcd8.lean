/- Chimneys: the heats behind a time; the steps that make one draw. -/
import Derived.Test.YtdpkbkmmlbmllaaPcd7
namespace Go.Proofs.Ytdpkbkmmlbmllaa
open Go.Ab Ieee

/-! ### chimneys whose heats are the same but for the signs of noughts -/
structure Tz (t u : List (List Int)) : Prop where
  len : u.length = t.length
  e0 : ∀ i, ic u i 0 = ic t i 0
  e1 : ∀ i, ic u i 1 = ic t i 1
  e3 : ∀ i, ic u i 3 = ic t i 3
  e4 : ∀ i, ic u i 4 = ic t i 4
  z : ∀ i, Zq (fc t i 2) (fc u i 2)
  l : ∀ i, fc t i 2 < 4294967296
  l' : ∀ i, fc u i 2 < 4294967296
theorem dense_z {a b : Nat} (h : Zq a b) (ha : a < 4294967296) (hb : b < 4294967296) : r117 a = r117 b := by
  rcases h with rfl | ⟨z, z'⟩
  · rfl
  · have c : fadd .f32 0 1133019136 = fadd .f32 2147483648 1133019136 := by decide +kernel
    unfold r117
    have ea : a = 0 ∨ a = 2147483648 := by omega
    have eb : b = 0 ∨ b = 2147483648 := by omega
    rcases ea with rfl | rfl <;> rcases eb with rfl | rfl <;> simp [c]
section
variable {t u : List (List Int)} (h : Tz t u) {o w : Nat}
include h
theorem flo_tz (i p : Nat) : flo u o i p = flo t o i p := by
  have g0 : fc u i 0 = fc t i 0 := congrArg Int.toNat (h.e0 i)
  have g1 : fc u i 1 = fc t i 1 := congrArg Int.toNat (h.e1 i)
  have g3 : fc u i 3 = fc t i 3 := congrArg Int.toNat (h.e3 i)
  have gd := dense_z (h.z i) (h.l i) (h.l' i)
  unfold flo thr r93 r110
  rw [g0, g1, g3, h.e4 i, gd]
  rfl
theorem brs_tz (k : Int) : brs u k = brs t k := by
  unfold brs
  rw [h.len]
  have e : brF u k = brF t k := funext fun i => by unfold brF; rw [h.e4 i]
  rw [e]
theorem sumB_tz (k : Int) (p : Nat) : sumB u o k p = sumB t o k p := by
  unfold sumB
  simp only [brs_tz h, flo_tz h]
theorem atP_tz (k : Nat) : atP u o w k = atP t o w k := by
  have e : atStep u o w k = atStep t o w k := funext fun i => funext fun b => by
    unfold atStep
    rw [sumB_tz h, flo_tz h]
  unfold atP
  rw [brs_tz h, e]
theorem fl_tz (i : Nat) : fl u o w i = fl t o w i := by
  unfold fl
  rw [h.e4 i, flo_tz h, flo_tz h, atP_tz h, atP_tz h]
theorem flows_tz : flows u o w = flows t o w := by
  unfold flows
  rw [h.len]
  exact congrArg (fun f => (List.range t.length).map f) (funext fun i => by rw [fl_tz h])
theorem hots_tz (F : List (List Int)) (i : Nat) : Zq (hots t F i).1 (hots u F i).1 ∧ (hots u F i).2 = (hots t F i).2 := by
  unfold hots
  rw [brs_tz h]
  generalize brs t (i : Int) = B
  have key : ∀ (k j : Nat) (p q : Nat × Nat), Zq p.1 q.1 → q.2 = p.2 → Zq (foldN (hotS t F B) k j p).1 (foldN (hotS u F B) k j q).1 ∧ (foldN (hotS u F B) k j q).2 = (foldN (hotS t F B) k j p).2 := by
    intro k
    induction k with
    | zero => intro j p q h1 h2; exact ⟨h1, h2⟩
    | succ k ih =>
      intro j p q h1 h2
      refine ih (j + 1) _ _ ?_ ?_
      · unfold hotS
        cases fgt .f32 (fc F (fc B j 0) 0) 0 with
        | true => exact add_zq h1 (mul_zq (.rfl' _) (h.z _))
        | false => exact h1
      · unfold hotS
        cases fgt .f32 (fc F (fc B j 0) 0) 0 with
        | true => show fadd .f32 q.2 _ = fadd .f32 p.2 _; rw [h2]
        | false => exact h2
  exact key _ _ _ _ (.rfl' _) rfl
theorem intoV_tz (S F : List (List Int)) (i : Nat) : Zq (intoV t S F o i) (intoV u S F o i) := by
  obtain ⟨h1, h2⟩ := hots_tz h F i
  unfold intoV
  rw [brs_tz h, h2]
  cases flt .f32 (fc F i 0) 0 with
  | true => exact .rfl' _
  | false =>
    simp only [cond_false]
    split
    · exact .rfl' _
    · cases fgt .f32 (hots t F i).2 0 with
      | true => exact div_zq h1
      | false => exact h.z i
theorem fins_tz (S F : List (List Int)) : fins (intos u S F o) = fins (intos t S F o) := by
  unfold fins
  rw [intos_len, intos_len, h.len]
  refine allN_congr fun i hi => ?_
  rw [intos_get (by rw [h.len]; exact hi), intos_get hi, (intoV_tz h S F i).mod]
end
/-! ### the heat of a flue -/
noncomputable def newS (t F O : List (List Int)) (o a i : Nat) : Nat := r106 (fadd .f32 (fadd .f32 (fc t i 2) (fmul .f32 (fmul .f32 (fmul .f32 1056964608 (r65 (fc F i 0))) (fsub .f32 (fc O i 0) (fc t i 2))) a)) (fmul .f32 (fmul .f32 1031798784 (fsub .f32 o (fc t i 2))) a)) 3262119936 1153138688
noncomputable def newI (t F O : List (List Int)) (o a i : Nat) : Nat := r107 (fadd .f32 (fadd .f32 (fc t i 2) (fmul .f32 (fmul .f32 (fmul .f32 1056964608 (cond (flt .f32 (fc F i 0) 0) (fneg .f32 (fc F i 0)) (fc F i 0))) (fsub .f32 (fc O i 0) (fc t i 2))) a)) (fmul .f32 (fmul .f32 1031798784 (fsub .f32 o (fc t i 2))) a)) 3262119936 1153138688
theorem abs_zq {f : Nat} (h : Fi f) (h2 : f < 4294967296) : Zq (r65 f) (cond (flt .f32 f 0) (fneg .f32 f) f) := by
  have z0 : Fi 0 := by unfold Fi; decide
  unfold r65
  rw [fle_sv h.nn z0.nn h2 (by decide), flt_sv h.nn z0.nn h2 (by decide), c0]
  by_cases h0 : f % 2147483648 = 0
  · have es : sv f = 0 := by
      have := sv_abs f
      rw [h0, show rval F32 0 = 0 from rval_zero F32] at this
      omega
    rw [es]
    refine .inr ⟨?_, h0⟩
    rcases sub_zq (.rfl' 0) (show Zq f 0 from .inr ⟨h0, rfl⟩) with e | ⟨e, _⟩
    · show fsub .f32 0 f % 2147483648 = 0
      rw [e]; decide +kernel
    · exact e
  · have hz : sv f ≠ 0 := fun e => by
      have := sv_abs f
      rw [e] at this
      exact h0 (rval_inj F32 ((show rval F32 (f % 2147483648) = 0 from this.symm).trans (rval_zero F32).symm))
    by_cases hn : sv f < 0
    · rw [decide_eq_true hn, decide_eq_true (show sv f ≤ 0 by omega)]
      exact .inl (neg_sub h h2 h0)
    · rw [decide_eq_false hn, decide_eq_false (show ¬ sv f ≤ 0 by omega)]
      exact .rfl' _
theorem held_zq {x y : Nat} (h : Zq x y) : Zq (r106 x 3262119936 1153138688) (r107 y 3262119936 1153138688) := by
  unfold r106 r107
  rw [flt_zq h (.rfl' _), fgt_zq h (.rfl' _)]
  cases flt .f32 y 3262119936 with
  | true => exact .rfl' _
  | false =>
    cases fgt .f32 y 1153138688 with
    | true => exact .rfl' _
    | false => exact h
theorem new_zq {t u F O O' : List (List Int)} {o a i : Nat} (h : Tz t u) (hO : Zq (fc O i 0) (fc O' i 0)) (hF : Fi (fc F i 0)) (hF2 : fc F i 0 < 4294967296) : Zq (newS t F O o a i) (newI u F O' o a i) :=
  held_zq (add_zq (add_zq (h.z i) (mul_zq (mul_zq (mul_zq (.rfl' _) (abs_zq hF hF2)) (sub_zq hO (h.z i))) (.rfl' _))) (mul_zq (mul_zq (.rfl' _) (sub_zq (.rfl' _) (h.z i))) (.rfl' _)))
theorem newI_lt (t F O : List (List Int)) (o a i : Nat) : newI t F O o a i < 4294967296 := by
  unfold newI r107
  cases flt .f32 _ 3262119936 with
  | true => show 3262119936 < 4294967296; decide
  | false =>
    cases fgt .f32 _ 1153138688 with
    | true => show 1153138688 < 4294967296; decide
    | false => exact fadd_lt _ _
theorem newS_lt (t F O : List (List Int)) (o a i : Nat) : newS t F O o a i < 4294967296 := by
  unfold newS r106
  cases flt .f32 _ 3262119936 with
  | true => show 3262119936 < 4294967296; decide
  | false =>
    cases fgt .f32 _ 1153138688 with
    | true => show 1153138688 < 4294967296; decide
    | false => exact fadd_lt _ _
/-- what is held between bounds lies there, if it is a number -/
theorem held_in {x : Nat} (hx : x < 4294967296) : r108 (r107 x 3262119936 1153138688) 3262119936 1153138688 = !isN .f32 (r107 x 3262119936 1153138688) := by
  unfold r107
  cases hn : isN .f32 x with
  | true =>
    rw [flt_nan_l hn, fgt_nan_l hn]
    show r108 x 3262119936 1153138688 = !isN .f32 x
    rw [hn]
    unfold r108
    rw [fgt_nan_l hn, feq_nan_l hn]; rfl
  | false =>
    have hN := nn_isN.1 hn
    have l1 : Nn 3262119936 := by unfold Nn; decide
    have l2 : Nn 1153138688 := by unfold Nn; decide
    rw [flt_sv hN l1 hx (by decide), fgt_sv hN l2 hx (by decide)]
    by_cases g1 : sv x < sv 3262119936
    · rw [decide_eq_true g1]; show r108 3262119936 3262119936 1153138688 = !isN .f32 3262119936; decide +kernel
    · rw [decide_eq_false g1]
      by_cases g2 : sv 1153138688 < sv x
      · rw [decide_eq_true g2]; show r108 1153138688 3262119936 1153138688 = !isN .f32 1153138688; decide +kernel
      · rw [decide_eq_false g2]
        show r108 x 3262119936 1153138688 = !isN .f32 x
        rw [hn]
        unfold r108
        rw [fge_sv hN l1 hx (by decide), fle_sv hN l2 hx (by decide), decide_eq_true (show sv 3262119936 ≤ sv x by omega), decide_eq_true (show sv x ≤ sv 1153138688 by omega)]
        rfl
/-! ### new heats -/
theorem ct_nat' {d : Nat} (h : d < 4294967296) : CTok (.fl .f32) (d : Int) := by
  exact ⟨Int.natCast_nonneg _, by omega⟩
theorem rows_getD' {t : List (List Int)} {r : List Int} (h : r ∈ t) : ∃ i, i < t.length ∧ t.getD i [] = r := by
  obtain ⟨i, hi, e⟩ := List.mem_iff_getElem.1 h
  exact ⟨i, hi, by rw [List.getD_eq_getElem?_getD, List.getElem?_eq_getElem hi]; exact e⟩
/-- the heats from flue 'i' on, set anew -/
noncomputable def updN (g : Nat → Nat) (k i : Nat) (x : List (List Int)) : List (List Int) := foldN (fun j x => x.modify j (fun r => spl 5 r 2 [((g j : Nat) : Int)])) k i x
theorem updN_len (g : Nat → Nat) : ∀ (k i : Nat) (x : List (List Int)), (updN g k i x).length = x.length
  | 0, _, _ => rfl
  | k + 1, i, x => by
    have := updN_len g k (i + 1) (x.modify i (fun r => spl 5 r 2 [((g i : Nat) : Int)]))
    rw [List.length_modify] at this
    exact this
theorem updN_old (g : Nat → Nat) : ∀ (k i j : Nat) (x : List (List Int)), j < i → (updN g k i x).getD j [] = x.getD j []
  | 0, _, _, _, _ => rfl
  | k + 1, i, j, x, h => by
    have := updN_old g k (i + 1) j (x.modify i (fun r => spl 5 r 2 [((g i : Nat) : Int)])) (by omega)
    refine Eq.trans this ?_
    simp [List.getD, List.getElem?_modify, show i ≠ j by omega]
theorem updN_get (g : Nat → Nat) : ∀ (k i j : Nat) (x : List (List Int)), i ≤ j → j < i + k → j < x.length → (updN g k i x).getD j [] = spl 5 (x.getD j []) 2 [((g j : Nat) : Int)]
  | 0, i, j, x, h1, h2, _ => by omega
  | k + 1, i, j, x, h1, h2, h3 => by
    by_cases h : j = i
    · subst h
      have := updN_old g k (j + 1) j (x.modify j (fun r => spl 5 r 2 [((g j : Nat) : Int)])) (by omega)
      refine Eq.trans this ?_
      simp [List.getD, List.getElem?_modify, h3]
    · have := updN_get g k (i + 1) j (x.modify i (fun r => spl 5 r 2 [((g i : Nat) : Int)])) (by omega) (by omega) (by simpa using h3)
      refine Eq.trans this ?_
      congr 1
      simp [List.getD, List.getElem?_modify, Ne.symm h]
theorem upd_row {g : Nat → Nat} {t : List (List Int)} {j : Nat} (hj : j < t.length) : (updN g t.length 0 t).getD j [] = [ic t j 0, ic t j 1, ((g j : Nat) : Int), ic t j 3, ic t j 4] := by
  rw [updN_get g t.length 0 j t (by omega) (by omega) hj]; rfl
theorem upd_out {g : Nat → Nat} {t : List (List Int)} {j : Nat} (hj : ¬ j < t.length) : (updN g t.length 0 t).getD j [] = [] := by
  rw [List.getD_eq_getElem?_getD, List.getElem?_eq_none (by rw [updN_len]; omega)]; rfl
theorem upd_ic {g : Nat → Nat} {t : List (List Int)} (j : Nat) : ic (updN g t.length 0 t) j 0 = ic t j 0 ∧ ic (updN g t.length 0 t) j 1 = ic t j 1 ∧ ic (updN g t.length 0 t) j 2 = (if j < t.length then ((g j : Nat) : Int) else 0) ∧ ic (updN g t.length 0 t) j 3 = ic t j 3 ∧ ic (updN g t.length 0 t) j 4 = ic t j 4 := by
  by_cases h : j < t.length
  · have e := upd_row (g := g) h
    rw [if_pos h]
    show ((updN g t.length 0 t).getD j []).getD 0 0 = _ ∧ ((updN g t.length 0 t).getD j []).getD 1 0 = _ ∧ ((updN g t.length 0 t).getD j []).getD 2 0 = _ ∧ ((updN g t.length 0 t).getD j []).getD 3 0 = _ ∧ ((updN g t.length 0 t).getD j []).getD 4 0 = _
    rw [e]
    exact ⟨rfl, rfl, rfl, rfl, rfl⟩
  · have e := upd_out (g := g) h
    have e' : t.getD j [] = [] := by rw [List.getD_eq_getElem?_getD, List.getElem?_eq_none (by omega)]; rfl
    rw [if_neg h]
    show ((updN g t.length 0 t).getD j []).getD 0 0 = (t.getD j []).getD 0 0 ∧ ((updN g t.length 0 t).getD j []).getD 1 0 = (t.getD j []).getD 1 0 ∧ ((updN g t.length 0 t).getD j []).getD 2 0 = _ ∧ ((updN g t.length 0 t).getD j []).getD 3 0 = (t.getD j []).getD 3 0 ∧ ((updN g t.length 0 t).getD j []).getD 4 0 = (t.getD j []).getD 4 0
    rw [e, e']
    exact ⟨rfl, rfl, rfl, rfl, rfl⟩
theorem upd_tz {t u : List (List Int)} {g g' : Nat → Nat} (h : Tz t u) (hg : ∀ j, j < t.length → Zq (g j) (g' j) ∧ g j < 4294967296 ∧ g' j < 4294967296) : Tz (updN g t.length 0 t) (updN g' u.length 0 u) := by
  have f2 : ∀ j, fc (updN g t.length 0 t) j 2 = if j < t.length then g j else 0 := fun j => by
    have e : fc (updN g t.length 0 t) j 2 = _ := congrArg Int.toNat (upd_ic (g := g) (t := t) j).2.2.1
    rw [e]; split <;> rfl
  have f2' : ∀ j, fc (updN g' u.length 0 u) j 2 = if j < t.length then g' j else 0 := fun j => by
    have e : fc (updN g' u.length 0 u) j 2 = _ := congrArg Int.toNat (upd_ic (g := g') (t := u) j).2.2.1
    rw [e, h.len]; split <;> rfl
  refine ⟨by rw [updN_len, updN_len, h.len], fun i => ?_, fun i => ?_, fun i => ?_, fun i => ?_, fun i => ?_, fun i => ?_, fun i => ?_⟩
  · rw [(upd_ic i).1, (upd_ic i).1, h.e0]
  · rw [(upd_ic i).2.1, (upd_ic i).2.1, h.e1]
  · rw [(upd_ic i).2.2.2.1, (upd_ic i).2.2.2.1, h.e3]
  · rw [(upd_ic i).2.2.2.2, (upd_ic i).2.2.2.2, h.e4]
  · rw [f2, f2']
    split
    · exact (hg i (by assumption)).1
    · exact .rfl' _
  · rw [f2]
    split
    · exact (hg i (by assumption)).2.1
    · decide
  · rw [f2']
    split
    · exact (hg i (by assumption)).2.2
    · decide
/-- a flue with another heat -/
theorem flueB_T {H W T D : Nat} (h : FlueOk H W T D) (T' : Nat) (e : Int) : r87 H W T' D e = r108 T' 3262119936 1153138688 := by
  have hH := h.h
  have hW := h.w
  have hD := h.d
  unfold r87
  have a1 : r70 H = true := by rw [(amount_eq H (by omega)).2]; exact decide_eq_true hH
  have a2 : r70 W = true := by rw [(amount_eq W (by omega)).2]; exact decide_eq_true hW
  have b1 : r108 H 1031798784 1106247680 = true := by
    unfold r108
    rw [fge_sv (by unfold Nn; omega) (by unfold Nn; decide) (by omega) (by decide), fle_sv (by unfold Nn; omega) (by unfold Nn; decide) (by omega) (by decide), decide_eq_true h.h1, decide_eq_true h.h2]; rfl
  have b2 : r108 W 1015021568 1082130432 = true := by
    unfold r108
    rw [fge_sv (by unfold Nn; omega) (by unfold Nn; decide) (by omega) (by decide), fle_sv (by unfold Nn; omega) (by unfold Nn; decide) (by omega) (by decide), decide_eq_true h.w1, decide_eq_true h.w2]; rfl
  have d1 : r72 D = true := by
    unfold r72
    rw [(amount_eq D (by omega)).2, decide_eq_true (show D < 2139095040 by omega), fle_sv (by unfold Nn; omega) (by unfold Nn; decide) (by omega) (by decide)]
    refine decide_eq_true ?_
    rw [sv_pos (by omega), sv_pos (by decide)]
    exact Int.ofNat_le.2 (rv_le hD)
  rw [a1, a2, b1, b2, d1]
  cases r108 T' 3262119936 1153138688 <;> rfl
/-- the heats are numbers -/
noncomputable def okN (g : Nat → Nat) (n : Nat) : Bool := allN n fun i => !isN .f32 (g i)
theorem upd_ok {t : List (List Int)} (hc : ChOk t) {g : Nat → Nat} (hlt : ∀ j, j < t.length → g j < 4294967296) (hin : ∀ j, j < t.length → r108 (g j) 3262119936 1153138688 = !isN .f32 (g j)) : r50 (updN g t.length 0 t) = (0, okN g t.length) ∧ (okN g t.length = true → ChOk (updN g t.length 0 t)) := by
  have n1 := hc.n1
  have n2 := hc.n2
  have hr : RowsOk S5 (updN g t.length 0 t) := by
    intro r hr
    obtain ⟨i, hi, e⟩ := rows_getD' hr
    rw [updN_len] at hi
    rw [upd_row hi] at e
    have ho := hc.rows.get hi
    rw [← e]
    exact ⟨ho.get (j := 0) rfl, ho.get (j := 1) rfl, ct_nat' (hlt i hi), ho.get (j := 3) rfl, ho.get (j := 4) rfl, trivial⟩
  have hp : allN t.length (pC (updN g t.length 0 t)) = okN g t.length := by
    refine allN_congr fun i hi => ?_
    obtain ⟨e0, e1, e2, e3, e4⟩ := upd_ic (g := g) (t := t) i
    rw [if_pos hi] at e2
    have g0 : fc (updN g t.length 0 t) i 0 = fc t i 0 := congrArg Int.toNat e0
    have g1 : fc (updN g t.length 0 t) i 1 = fc t i 1 := congrArg Int.toNat e1
    have g2 : fc (updN g t.length 0 t) i 2 = g i := congrArg Int.toNat e2
    have g3 : fc (updN g t.length 0 t) i 3 = fc t i 3 := congrArg Int.toNat e3
    have hib : intoB (updN g t.length 0 t) i = true := by
      unfold intoB
      rw [e4, updN_len, (upd_ic (g := g) (t := t) (ic t i 4).toNat).2.2.2.2]
      rcases hc.into i hi with h | ⟨h1, h2, h3, h4⟩
      · rw [decide_eq_true h]; rfl
      · rw [decide_eq_true (show 0 ≤ ic t i 4 ∧ ic t i 4 < t.length ∧ ic t i 4 ≠ i from ⟨h1, h2, h3⟩), decide_eq_true h4, Bool.true_and, Bool.or_true]
    unfold pC flueB
    rw [hib, g0, g1, g2, g3, flueB_T (hc.flue i hi), hin i hi, Bool.and_true]
  obtain ⟨b, _, v2, v3⟩ := valid_both hr (by rw [updN_len]; omega)
  have e50 : r50 (updN g t.length 0 t) = (0, okN g t.length) := by
    have lp := loopI (t := updN g t.length 0 t) (fuel := 1000 + (updN g t.length 0 t).length) (by rw [updN_len]; omega) (by omega)
    rw [updN_len, hp] at lp
    unfold r50
    rw [updN_len, lp, decide_eq_false (show ¬ ((t.length : Nat) : Int) < 1 by omega), decide_eq_false (show ¬ ((t.length : Nat) : Int) > 6 by omega)]
    cases okN g t.length <;> rfl
  refine ⟨e50, fun h => v3 ?_⟩
  rw [v2] at e50
  have := congrArg Prod.snd e50
  exact this.trans h
end Go.Proofs.Ytdpkbkmmlbmllaa
