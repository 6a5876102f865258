/- Chimneys: sizes, copies, sameness, validity. -/
import Derived.Test.YtffpnkkhcgjmfaaGreatDoorPrm2
import Derived.Test.YtffpnkkhcgjmfaaGreatDoorA31
namespace Go.Proofs.YtffpnkkhcgjmfaaGreatDoor
open Go.Ab

abbrev Sh5 : List CT := [.fl .f32, .fl .f32, .fl .f32, .fl .f32, .int .i64]
/-- a cell of a table -/
@[reducible] def fc (t : List (List Int)) (i j : Nat) : Nat := Int.toNat ((t.getD i []).getD j 0)
@[reducible] def ic (t : List (List Int)) (i j : Nat) : Int := (t.getD i []).getD j 0
theorem fc_lt {s : List CT} {t : List (List Int)} (h : RowsOk s t) {i j : Nat} (hi : i < t.length) (hj : s[j]? = some (.fl .f32)) : fc t i j < 4294967296 := CTok.lt32 ((h.get hi).get hj)
theorem amount_sw (d : Nat) (h : d < 4294967296) : r94 d = decide (d < 2139095040) ∧ r91 d = decide (d < 2139095040) := ⟨(amount_eq d h).2, (amount_eq d h).1⟩
theorem float_self (a : Nat) : r86 a a = true := by
  unfold r86
  cases h : feq .f64 a a <;> cases feq .f64 a 0 <;> simp
theorem flue_self (a b c d : Nat) (e : Int) : r41 a b c d e a b c d e = true := by
  unfold r41 w41
  simp only [float_self, bne_self_eq_false]; rfl
theorem bne_len {a b : Nat} : (((a : Nat) : Int) != ((b : Nat) : Int)) = !decide (b = a) := by
  by_cases h : b = a
  · subst h; simp
  · rw [decide_eq_false h]
    simp only [bne, Bool.not_false, Bool.not_eq_true', beq_eq_false_iff_ne]
    omega
theorem selfC {l : List (List Int)} (hl : l.length ≤ 1048576) : r8b l l = (0, true) := by
  have key : r8l0b (1000 + l.length + l.length) 0 l l = 1 := by
    have := all_loop (n := l.length) (p := fun _ => true) (yes := 1) (no := 0) (G := fun m i => r8l0b m i l l) (fuel := 1000 + l.length + l.length) ?_ ?_ (by omega)
    · rw [this, show allN l.length (fun _ => true) = true from allN_true.2 (fun _ _ => rfl)]; rfl
    · intro m
      show b8l0b (r8l0b m) _ _ _ = _
      unfold b8l0b
      rw [dlt_f (Nat.lt_irrefl _)]; rfl
    · intro m i hi
      show b8l0b (r8l0b m) _ _ _ = _
      unfold b8l0b
      simp only [flue_self]
      rw [dlt_t hi, dle0, Int.toNat_natCast, blt_t hi, wrap_succ (by omega)]
      rfl
  unfold r8b w8b
  rw [key, bne_len]; simp [Nat.beq]
/-! ### numbers -/
/-- is a number between two others? -/
theorem btw {a lo hi : Nat} (h : r48 a lo hi = true) (hlo : Nn lo) (hhi : Nn hi) (l2 : lo < 4294967296) (h2 : hi < 4294967296) (a2 : a < 4294967296) : Nn a ∧ sv lo ≤ sv a ∧ sv a ≤ sv hi := by
  have hn : Nn a := by
    refine nn_isN.1 ?_
    cases e : isN .f32 a with
    | false => rfl
    | true =>
      unfold r48 w48 at h
      rw [fgt_nan_l e, feq_nan_l e] at h
      cases h
  unfold r48 w48 at h
  rw [fge_sv hn hlo a2 l2, fle_sv hn hhi a2 h2] at h
  by_cases h1 : sv lo ≤ sv a
  · rw [decide_eq_true h1, cond_true, decide_eq_true_eq] at h
    exact ⟨hn, h1, h⟩
  · rw [decide_eq_false h1] at h; cases h
theorem hot_eq (a : Nat) : r95 a = r48 a 3262119936 1153138688 := rfl
theorem share_eq (a : Nat) (h : a < 4294967296) : r96 a = r92 a := by
  unfold r96 w96 r92 w92
  rw [(amount_sw a h).1, (amount_sw a h).2]
/-! ### validity -/
noncomputable def flueB (t : List (List Int)) (i : Nat) : Bool := r46 (fc t i 0) (fc t i 1) (fc t i 2) (fc t i 3) (ic t i 4)
theorem flueS {t : List (List Int)} (h : RowsOk Sh5 t) {i : Nat} (hi : i < t.length) : r52 i t = (0, flueB t i) := by
  unfold r52 flueB r46 w46
  rw [blt_t hi, (amount_sw _ (fc_lt h hi (j := 0) rfl)).1, (amount_sw _ (fc_lt h hi (j := 0) rfl)).2, (amount_sw _ (fc_lt h hi (j := 1) rfl)).1, (amount_sw _ (fc_lt h hi (j := 1) rfl)).2, hot_eq, share_eq _ (fc_lt h hi (j := 3) rfl)]
  cases decide (fc t i 0 < 2139095040) with
  | false => rfl
  | true =>
  unfold r48 w48
  cases (fgt .f32 (fc t i 0) 1031798784 || feq .f32 (fc t i 0) 1031798784) with
  | false => rfl
  | true =>
  cases (flt .f32 (fc t i 0) 1106247680 || feq .f32 (fc t i 0) 1106247680) with
  | false => rfl
  | true =>
  cases decide (fc t i 1 < 2139095040) with
  | false => rfl
  | true =>
  cases (fgt .f32 (fc t i 1) 1015021568 || feq .f32 (fc t i 1) 1015021568) with
  | false => rfl
  | true =>
  cases (flt .f32 (fc t i 1) 1082130432 || feq .f32 (fc t i 1) 1082130432) with
  | false => rfl
  | true =>
  cases (fgt .f32 (fc t i 2) 3262119936 || feq .f32 (fc t i 2) 3262119936) with
  | false => rfl
  | true => cases (flt .f32 (fc t i 2) 1153138688 || feq .f32 (fc t i 2) 1153138688) <;> rfl
/-- where a flue leads -/
noncomputable def intoB (t : List (List Int)) (i : Nat) : Bool := decide (ic t i 4 = -1) || (decide (0 ≤ ic t i 4 ∧ ic t i 4 < t.length ∧ ic t i 4 ≠ i) && decide (ic t (ic t i 4).toNat 4 = -1))
noncomputable def pC (t : List (List Int)) (i : Nat) : Bool := flueB t i && intoB t i
theorem loopS {t : List (List Int)} (h : RowsOk Sh5 t) (hl : t.length ≤ 1048576) {fuel : Nat} (hf : t.length < fuel) : r34l0 fuel ((t.length : Nat) : Int) 0 t = cond (allN t.length (pC t)) 1 0 := by
  refine all_loop (n := t.length) (p := pC t) (yes := 1) (no := 0) (G := fun m i => r34l0 m ((t.length : Nat) : Int) i t) ?_ ?_ hf
  · intro m
    show b34l0 (r34l0 m) _ _ _ = _
    unfold b34l0
    rw [dlt_f (Nat.lt_irrefl _)]; rfl
  · intro m i hi
    show b34l0 (r34l0 m) _ _ _ = _
    unfold b34l0 pC intoB
    rw [dlt_t hi, dle0, Int.toNat_natCast, blt_t hi, wrap_succ (by omega), flueS h hi]
    cases flueB t i with
    | false => rfl
    | true =>
    have hw : IntKind.i64.wrap (((t.length : Nat) : Int) - 1) = (t.length : Int) - 1 := wrap_i64 (by omega) (by omega)
    rw [hw]
    show cond (ic t i 4 == -1) _ (cond (!(r79 (ic t i 4) 0 _)) 0 (cond (ic t i 4 == (i : Int)) 0 _)) = _
    unfold r79 w79
    by_cases h1 : ic t i 4 = -1
    · rw [h1]; rfl
    · rw [show (ic t i 4 == -1) = false from beq_eq_false_iff_ne.2 h1, decide_eq_false h1]
      by_cases h2 : 0 ≤ ic t i 4 ∧ ic t i 4 < t.length ∧ ic t i 4 ≠ i
      · rw [decide_eq_true h2, decide_eq_true (show ic t i 4 ≥ 0 from h2.1), decide_eq_true (show ic t i 4 ≤ (t.length : Int) - 1 by omega), show (ic t i 4 == (i : Int)) = false from beq_eq_false_iff_ne.2 h2.2.2, blt_t (show (ic t i 4).toNat < t.length by omega)]
        show cond (ic t (ic t i 4).toNat 4 != -1) _ _ = _
        by_cases h3 : ic t (ic t i 4).toNat 4 = -1
        · rw [h3]; rfl
        · rw [decide_eq_false h3, show (ic t (ic t i 4).toNat 4 != -1) = true from bne_iff_ne.2 h3]; rfl
      · rw [decide_eq_false h2]
        by_cases h3 : ic t i 4 ≥ 0
        · rw [decide_eq_true h3]
          by_cases h4 : ic t i 4 ≤ (t.length : Int) - 1
          · rw [decide_eq_true h4]
            have h5 : ic t i 4 = i := by omega
            rw [h5, beq_self_eq_true]; rfl
          · rw [decide_eq_false h4]; rfl
        · rw [decide_eq_false h3]; rfl
theorem loopI {t : List (List Int)} (hl : t.length ≤ 1048576) {fuel : Nat} (hf : t.length < fuel) : r16l0 fuel ((t.length : Nat) : Int) 0 t = cond (allN t.length (pC t)) 1 0 := by
  refine all_loop (n := t.length) (p := pC t) (yes := 1) (no := 0) (G := fun m i => r16l0 m ((t.length : Nat) : Int) i t) ?_ ?_ hf
  · intro m
    show b16l0 (r16l0 m) _ _ _ = _
    unfold b16l0
    rw [dlt_f (Nat.lt_irrefl _)]; rfl
  · intro m i hi
    show b16l0 (r16l0 m) _ _ _ = _
    unfold b16l0 pC intoB
    simp only [Int.toNat_natCast]
    rw [dlt_t hi, dle0, blt_t hi, wrap_succ (by omega), show r46 (fc t i 0) (fc t i 1) (fc t i 2) (fc t i 3) (ic t i 4) = flueB t i from rfl]
    cases flueB t i with
    | false => rfl
    | true =>
    show cond (ic t i 4 == -1) _ (cond (decide (ic t i 4 < 0)) 0 (cond (decide (ic t i 4 ≥ (t.length : Int))) 0 (cond (ic t i 4 == (i : Int)) 0 _))) = _
    by_cases h1 : ic t i 4 = -1
    · rw [h1]; rfl
    · rw [show (ic t i 4 == -1) = false from beq_eq_false_iff_ne.2 h1, decide_eq_false h1]
      by_cases h2 : 0 ≤ ic t i 4 ∧ ic t i 4 < t.length ∧ ic t i 4 ≠ i
      · rw [decide_eq_true h2, decide_eq_false (show ¬ ic t i 4 < 0 by omega), decide_eq_false (show ¬ ic t i 4 ≥ (t.length : Int) by omega), show (ic t i 4 == (i : Int)) = false from beq_eq_false_iff_ne.2 h2.2.2, decide_eq_true h2.1, blt_t (show (ic t i 4).toNat < t.length by omega)]
        show cond (ic t (ic t i 4).toNat 4 != -1) _ _ = _
        by_cases h3 : ic t (ic t i 4).toNat 4 = -1
        · rw [h3]; rfl
        · rw [decide_eq_false h3, show (ic t (ic t i 4).toNat 4 != -1) = true from bne_iff_ne.2 h3]; rfl
      · rw [decide_eq_false h2]
        by_cases h3 : ic t i 4 < 0
        · rw [decide_eq_true h3]; rfl
        · rw [decide_eq_false h3]
          by_cases h4 : ic t i 4 ≥ (t.length : Int)
          · rw [decide_eq_true h4]; rfl
          · rw [decide_eq_false h4]
            have h5 : ic t i 4 = i := by omega
            rw [h5, beq_self_eq_true]; rfl
/-- a flue that is valid -/
structure FlueOk (H W T D : Nat) : Prop where
  h : H < 2139095040
  w : W < 2139095040
  d : D ≤ 1065353216
  h1 : sv 1031798784 ≤ sv H
  h2 : sv H ≤ sv 1106247680
  w1 : sv 1015021568 ≤ sv W
  w2 : sv W ≤ sv 1082130432
  tn : Nn T
  t0 : T < 4294967296
  t1 : sv 3262119936 ≤ sv T
  t2 : sv T ≤ sv 1153138688
/-- a chimney that is valid -/
structure ChOk (t : List (List Int)) : Prop where
  rows : RowsOk Sh5 t
  n1 : 1 ≤ t.length
  n2 : t.length ≤ 6
  flue : ∀ i, i < t.length → FlueOk (fc t i 0) (fc t i 1) (fc t i 2) (fc t i 3)
  into : ∀ i, i < t.length → ic t i 4 = -1 ∨ (0 ≤ ic t i 4 ∧ ic t i 4 < t.length ∧ ic t i 4 ≠ i ∧ ic t (ic t i 4).toNat 4 = -1)
theorem share_pos {a : Nat} (ha : a < 4294967296) (h : r92 a = true) : a ≤ 1065353216 := by
  unfold r92 w92 at h
  rw [(amount_sw a ha).2] at h
  by_cases h1 : a < 2139095040
  · rw [decide_eq_true h1, cond_true, fle_sv (by unfold Nn; omega) (by unfold Nn; decide) ha (by decide), decide_eq_true_eq, sv_pos (by omega), sv_pos (by decide)] at h
    exact rv_le_iff.1 (by omega)
  · rw [decide_eq_false h1] at h; cases h
theorem flue_ok {t : List (List Int)} (h : RowsOk Sh5 t) {i : Nat} (hi : i < t.length) (hb : flueB t i = true) : FlueOk (fc t i 0) (fc t i 1) (fc t i 2) (fc t i 3) := by
  have l0 := fc_lt h hi (j := 0) rfl
  have l1 := fc_lt h hi (j := 1) rfl
  have l2 := fc_lt h hi (j := 2) rfl
  have l3 := fc_lt h hi (j := 3) rfl
  unfold flueB r46 w46 at hb
  rw [(amount_sw _ l0).2, (amount_sw _ l1).2] at hb
  by_cases g1 : fc t i 0 < 2139095040
  · rw [decide_eq_true g1, cond_true] at hb
    cases g2 : r48 (fc t i 0) 1031798784 1106247680 with
    | false => rw [g2] at hb; cases hb
    | true =>
    rw [g2, cond_true] at hb
    by_cases g3 : fc t i 1 < 2139095040
    · rw [decide_eq_true g3, cond_true] at hb
      cases g4 : r48 (fc t i 1) 1015021568 1082130432 with
      | false => rw [g4] at hb; cases hb
      | true =>
      rw [g4, cond_true] at hb
      cases g5 : r48 (fc t i 2) 3262119936 1153138688 with
      | false => rw [g5] at hb; cases hb
      | true =>
      rw [g5, cond_true] at hb
      have k0 := btw g2 (by unfold Nn; decide) (by unfold Nn; decide) (by decide) (by decide) l0
      have k1 := btw g4 (by unfold Nn; decide) (by unfold Nn; decide) (by decide) (by decide) l1
      have k2 := btw g5 (by unfold Nn; decide) (by unfold Nn; decide) (by decide) (by decide) l2
      exact ⟨g1, g3, share_pos l3 hb, k0.2.1, k0.2.2, k1.2.1, k1.2.2, k2.1, l2, k2.2.1, k2.2.2⟩
    · rw [decide_eq_false g3] at hb; cases hb
  · rw [decide_eq_false g1] at hb; cases hb
theorem valid_both {t : List (List Int)} (h : RowsOk Sh5 t) (hl : t.length ≤ 1048576) : ∃ b, r34 t = (0, b) ∧ r16 t = (0, b) ∧ (b = true → ChOk t) := by
  unfold r34 w34 r16 w16
  rw [loopS h hl (by omega), loopI hl (by omega)]
  unfold r79 w79
  by_cases h1 : 1 ≤ t.length
  · rw [decide_eq_true (show (((t.length : Nat) : Int)) ≥ 1 by omega), decide_eq_false (show ¬ (((t.length : Nat) : Int)) < 1 by omega)]
    by_cases h2 : t.length ≤ 6
    · rw [decide_eq_true (show (((t.length : Nat) : Int)) ≤ 6 by omega), decide_eq_false (show ¬ (((t.length : Nat) : Int)) > 6 by omega)]
      cases e : allN t.length (pC t) with
      | false => exact ⟨false, rfl, rfl, fun e => by cases e⟩
      | true =>
        refine ⟨true, rfl, rfl, fun _ => ?_⟩
        have al := allN_true.1 e
        refine ⟨h, h1, h2, fun i hi => ?_, fun i hi => ?_⟩
        · have := al i hi
          unfold pC at this
          rw [Bool.and_eq_true] at this
          exact flue_ok h hi this.1
        · have := al i hi
          unfold pC at this
          rw [Bool.and_eq_true] at this
          have := this.2
          unfold intoB at this
          rw [Bool.or_eq_true, Bool.and_eq_true, decide_eq_true_eq, decide_eq_true_eq, decide_eq_true_eq] at this
          rcases this with g | ⟨⟨g1, g2, g3⟩, g4⟩
          · exact .inl g
          · exact .inr ⟨g1, g2, g3, g4⟩
    · rw [decide_eq_false (show ¬ (((t.length : Nat) : Int)) ≤ 6 by omega), decide_eq_true (show (((t.length : Nat) : Int)) > 6 by omega)]
      exact ⟨false, rfl, rfl, fun e => by cases e⟩
  · rw [decide_eq_false (show ¬ (((t.length : Nat) : Int)) ≥ 1 by omega), decide_eq_true (show (((t.length : Nat) : Int)) < 1 by omega)]
    exact ⟨false, rfl, rfl, fun e => by cases e⟩
/-- what a heat outside and a wind may be -/
structure WOk (o w : Nat) : Prop where
  on : Nn o
  o0 : o < 4294967296
  o1 : sv 3262119936 ≤ sv o
  o2 : sv o ≤ sv 1114636288
  wn : Nn w
  w0 : w < 4294967296
  w1 : sv 3296329728 ≤ sv w
  w2 : sv w ≤ sv 1148846080
end Go.Proofs.YtffpnkkhcgjmfaaGreatDoor
