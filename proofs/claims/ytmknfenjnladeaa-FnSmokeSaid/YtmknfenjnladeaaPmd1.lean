/- Chimneys: sizes, copies, sameness, validity. -/
import Derived.Test.YtmknfenjnladeaaSm15
import Derived.Test.YtmknfenjnladeaaA29
import Derived.Test.YtmknfenjnladeaaA32
import Derived.Test.YtmknfenjnladeaaA26
import Derived.Test.YtmknfenjnladeaaA33
namespace Go.Proofs.Ytmknfenjnladeaa
open Go.Ab

abbrev S5 : List CT := [.fl .f32,.fl .f32,.fl .f32,.fl .f32,.int .i64]
@[reducible] def fc (t : List (List Int)) (i j : Nat) : Nat := Int.toNat ((t.getD i []).getD j 0)
@[reducible] def ic (t : List (List Int)) (i j : Nat) : Int := (t.getD i []).getD j 0
theorem fc_lt {s : List CT} {t : List (List Int)} (h : RowsOk s t) {i j : Nat} (hi : i < t.length) (hj : s[j]? = some (.fl .f32)) : fc t i j < 4294967296 := CTok.lt32 ((h.get hi).get hj)
theorem bne_len {a b : Nat} : (((a : Nat) : Int) != ((b : Nat) : Int)) = !decide (b = a) := by
  by_cases h : b = a
  · subst h; simp
  · rw [decide_eq_false h]
    simp only [bne,Bool.not_false,Bool.not_eq_true',beq_eq_false_iff_ne]
    omega
theorem fin_spec (d : Nat) : r147 d = decide (d % 2147483648 < 2139095040) := finite_sub d
theorem fin_impl (d : Nat) : r59 d = decide (d % 2147483648 < 2139095040) := by
  have e : r127 (widen d) 0 = decide (d % 2147483648 = 2139095040) := abs_top d
  have e56 : r59 d = cond (r126 (widen d)) false (cond (r127 (widen d) 0) false true) := by
    unfold r59 r59l0b
    cases r126 (widen d) <;> cases r127 (widen d) 0 <;> rfl
  rw [e56]
  unfold r126
  rw [e,feq_self,isN_widen,isN32]
  by_cases h1 : 2139095040 < d % 2147483648
  · have h2 : ¬ (d % 2147483648 < 2139095040) := by omega
    simp [h1,h2]
  · by_cases h2 : d % 2147483648 = 2139095040
    · simp [h2]
    · have h3 : d % 2147483648 < 2139095040 := by omega
      simp [h1,h2,h3]
theorem amount_eq (d : Nat) (h : d < 4294967296) : r148 d = decide (d < 2139095040) ∧ r142 d = decide (d < 2139095040) := by
  unfold r148 r142
  rw [fin_spec,fin_impl]
  by_cases h1 : d % 2147483648 < 2139095040
  · have hn : isN .f32 d = false := by rw [isN32,decide_eq_false_iff_not]; omega
    have z : isN .f32 0 = false := by decide
    rw [decide_eq_true h1]
    rw [fgt_key .f32 d _ hn z,feq_key .f32 d _ hn z,key32 d h,key32 0 (by decide)]
    have e31 : (min (31 : Int).toNat (IntKind.bits .u32)) = 31 := by decide
    have ef : Int.fdiv (d : Int) (2 ^ 31) = ((d / 2147483648 : Nat) : Int) := by
      rw [Int.fdiv_eq_ediv_of_nonneg _ (by decide)]; rfl
    rw [e31,ef]
    by_cases h2 : 2147483648 ≤ d
    · have g1 : ¬ d < 2139095040 := by omega
      have g2 : d / 2147483648 = 1 := by omega
      have g3 : ((d : Int) == 0) = false := by rw [beq_eq_false_iff_ne]; omega
      have g4 : ¬ ((d : Int) < 2147483648) := by omega
      simp only [if_pos h2,g2]
      simp [g1,g3,g4,hn]
    · have g1 : d < 2139095040 := by omega
      have g2 : d / 2147483648 = 0 := by omega
      simp only [if_neg h2,g2]
      by_cases h3 : d = 0
      · subst h3; simp [hn]
      · have g5 : 0 < d := by omega
        simp [g1,g5]
  · have g1 : ¬ d < 2139095040 := by omega
    rw [decide_eq_false h1,decide_eq_false g1]
    exact ⟨rfl,rfl⟩
theorem btw {a lo hi : Nat} (h : r146 a lo hi = true) (hlo : Nn lo) (hhi : Nn hi) (l2 : lo < 4294967296) (h2 : hi < 4294967296) (a2 : a < 4294967296) : Nn a ∧ sv lo ≤ sv a ∧ sv a ≤ sv hi := by
  have hn : Nn a := by
    refine nn_isN.1 ?_
    cases e : isN .f32 a with
    | false => rfl
    | true =>
      unfold r146 at h
      rw [fgt_nan_l e,feq_nan_l e] at h
      cases h
  unfold r146 at h
  rw [fge_sv hn hlo a2 l2,fle_sv hn hhi a2 h2] at h
  by_cases h1 : sv lo ≤ sv a
  · rw [decide_eq_true h1,cond_true,decide_eq_true_eq] at h
    exact ⟨hn,h1,h⟩
  · rw [decide_eq_false h1] at h; cases h
theorem hot_eq (a : Nat) : r150 a = r146 a 3262119936 1153138688 := rfl
theorem out_eq (a : Nat) : r98 a = r81 a := rfl
theorem push_eq (a : Nat) : r128 a = r124 a := rfl
theorem share_eq (a : Nat) (h : a < 4294967296) : r167 a = r78 a := by
  unfold r167 r78
  rw [(amount_eq a h).1,(amount_eq a h).2]
noncomputable def flueB (t : List (List Int)) (i : Nat) : Bool := r107 (fc t i 0) (fc t i 1) (fc t i 2) (fc t i 3) (ic t i 4)
theorem flueS {t : List (List Int)} (h : RowsOk S5 t) {i : Nat} (hi : i < t.length) : r149 i t = (0,flueB t i) := by
  unfold r149 flueB r107
  rw [blt_t hi,(amount_eq _ (fc_lt h hi (j := 0) rfl)).1,(amount_eq _ (fc_lt h hi (j := 0) rfl)).2,(amount_eq _ (fc_lt h hi (j := 1) rfl)).1,(amount_eq _ (fc_lt h hi (j := 1) rfl)).2,hot_eq,share_eq _ (fc_lt h hi (j := 3) rfl)]
  cases decide (fc t i 0 < 2139095040) with
  | false => rfl
  | true =>
  unfold r146
  cases (fgt .f32 (fc t i 0) 1031798784 || feq .f32 (fc t i 0) 1031798784) with
  | false => rfl
  | true =>
  cases (flt .f32 (fc t i 0) 1106247680 || feq .f32 (fc t i 0) 1106247680) with
  | false => rfl
  | true =>
  cases decide (fc t i 1 < 2139095040) with
  | false => rfl
  | true =>
  cases (fgt .f32 (fc t i 1) 1015021568 || feq .f32 (fc t i 1) 1015021568) with
  | false => rfl
  | true =>
  cases (flt .f32 (fc t i 1) 1082130432 || feq .f32 (fc t i 1) 1082130432) with
  | false => rfl
  | true =>
  cases (fgt .f32 (fc t i 2) 3262119936 || feq .f32 (fc t i 2) 3262119936) with
  | false => rfl
  | true => cases (flt .f32 (fc t i 2) 1153138688 || feq .f32 (fc t i 2) 1153138688) <;> rfl
noncomputable def intoB (t : List (List Int)) (i : Nat) : Bool := decide (ic t i 4 = -1) || (decide (0 ≤ ic t i 4 ∧ ic t i 4 < t.length ∧ ic t i 4 ≠ i) && decide (ic t (ic t i 4).toNat 4 = -1))
noncomputable def pC (t : List (List Int)) (i : Nat) : Bool := flueB t i && intoB t i
theorem loopS {t : List (List Int)} (h : RowsOk S5 t) (hl : t.length ≤ 1048576) {fuel : Nat} (hf : t.length < fuel) : r97l0 fuel ((t.length : Nat) : Int) 0 t = cond (allN t.length (pC t)) 1 0 := by
  refine all_loop (n := t.length) (p := pC t) (yes := 1) (no := 0) (G := fun m i => r97l0 m ((t.length : Nat) : Int) i t) ?_ ?_ hf
  · intro m
    show b97l0 (r97l0 m) _ _ _ = _
    unfold b97l0
    rw [dlt_f (Nat.lt_irrefl _)]; rfl
  · intro m i hi
    show b97l0 (r97l0 m) _ _ _ = _
    unfold b97l0 pC intoB
    rw [dlt_t hi,dle0,Int.toNat_natCast,blt_t hi,wrap_succ (by omega),flueS h hi]
    cases flueB t i with
    | false => rfl
    | true =>
    have hw : IntKind.i64.wrap (((t.length : Nat) : Int) - 1) = (t.length : Int) - 1 := wrap_i64 (by omega) (by omega)
    rw [hw]
    show cond (ic t i 4 == -1) _ (cond (!(r66 (ic t i 4) 0 _)) 0 (cond (ic t i 4 == (i : Int)) 0 _)) = _
    unfold r66
    by_cases h1 : ic t i 4 = -1
    · rw [h1]; rfl
    · rw [show (ic t i 4 == -1) = false from beq_eq_false_iff_ne.2 h1,decide_eq_false h1]
      by_cases h2 : 0 ≤ ic t i 4 ∧ ic t i 4 < t.length ∧ ic t i 4 ≠ i
      · rw [decide_eq_true h2,decide_eq_true (show ic t i 4 ≥ 0 from h2.1),decide_eq_true (show ic t i 4 ≤ (t.length : Int) - 1 by omega),show (ic t i 4 == (i : Int)) = false from beq_eq_false_iff_ne.2 h2.2.2,blt_t (show (ic t i 4).toNat < t.length by omega)]
        show cond (ic t (ic t i 4).toNat 4 != -1) _ _ = _
        by_cases h3 : ic t (ic t i 4).toNat 4 = -1
        · rw [h3]; rfl
        · rw [decide_eq_false h3,show (ic t (ic t i 4).toNat 4 != -1) = true from bne_iff_ne.2 h3]; rfl
      · rw [decide_eq_false h2]
        by_cases h3 : ic t i 4 ≥ 0
        · rw [decide_eq_true h3]
          by_cases h4 : ic t i 4 ≤ (t.length : Int) - 1
          · rw [decide_eq_true h4]
            have h5 : ic t i 4 = i := by omega
            rw [h5,beq_self_eq_true]; rfl
          · rw [decide_eq_false h4]; rfl
        · rw [decide_eq_false h3]; rfl
theorem loopI {t : List (List Int)} (hl : t.length ≤ 1048576) {fuel : Nat} (hf : t.length < fuel) : r45l0 fuel ((t.length : Nat) : Int) 0 t = cond (allN t.length (pC t)) 1 0 := by
  refine all_loop (n := t.length) (p := pC t) (yes := 1) (no := 0) (G := fun m i => r45l0 m ((t.length : Nat) : Int) i t) ?_ ?_ hf
  · intro m
    show b45l0 (r45l0 m) _ _ _ = _
    unfold b45l0
    rw [dlt_f (Nat.lt_irrefl _)]; rfl
  · intro m i hi
    show b45l0 (r45l0 m) _ _ _ = _
    unfold b45l0 pC intoB
    simp only [Int.toNat_natCast]
    rw [dlt_t hi,dle0,blt_t hi,wrap_succ (by omega),show r107 (fc t i 0) (fc t i 1) (fc t i 2) (fc t i 3) (ic t i 4) = flueB t i from rfl]
    cases flueB t i with
    | false => rfl
    | true =>
    show cond (ic t i 4 == -1) _ (cond (decide (ic t i 4 < 0)) 0 (cond (decide (ic t i 4 ≥ (t.length : Int))) 0 (cond (ic t i 4 == (i : Int)) 0 _))) = _
    by_cases h1 : ic t i 4 = -1
    · rw [h1]; rfl
    · rw [show (ic t i 4 == -1) = false from beq_eq_false_iff_ne.2 h1,decide_eq_false h1]
      by_cases h2 : 0 ≤ ic t i 4 ∧ ic t i 4 < t.length ∧ ic t i 4 ≠ i
      · rw [decide_eq_true h2,decide_eq_false (show ¬ ic t i 4 < 0 by omega),decide_eq_false (show ¬ ic t i 4 ≥ (t.length : Int) by omega),show (ic t i 4 == (i : Int)) = false from beq_eq_false_iff_ne.2 h2.2.2,decide_eq_true h2.1,blt_t (show (ic t i 4).toNat < t.length by omega)]
        show cond (ic t (ic t i 4).toNat 4 != -1) _ _ = _
        by_cases h3 : ic t (ic t i 4).toNat 4 = -1
        · rw [h3]; rfl
        · rw [decide_eq_false h3,show (ic t (ic t i 4).toNat 4 != -1) = true from bne_iff_ne.2 h3]; rfl
      · rw [decide_eq_false h2]
        by_cases h3 : ic t i 4 < 0
        · rw [decide_eq_true h3]; rfl
        · rw [decide_eq_false h3]
          by_cases h4 : ic t i 4 ≥ (t.length : Int)
          · rw [decide_eq_true h4]; rfl
          · rw [decide_eq_false h4]
            have h5 : ic t i 4 = i := by omega
            rw [h5,beq_self_eq_true]; rfl
structure FlueOk (H W T D : Nat) : Prop where
  h : H < 2139095040
  w : W < 2139095040
  d : D ≤ 1065353216
  h1 : sv 1031798784 ≤ sv H
  h2 : sv H ≤ sv 1106247680
  w1 : sv 1015021568 ≤ sv W
  w2 : sv W ≤ sv 1082130432
  tn : Nn T
  t0 : T < 4294967296
  t1 : sv 3262119936 ≤ sv T
  t2 : sv T ≤ sv 1153138688
structure ChOk (t : List (List Int)) : Prop where
  rows : RowsOk S5 t
  n1 : 1 ≤ t.length
  n2 : t.length ≤ 6
  flue : ∀ i,i < t.length → FlueOk (fc t i 0) (fc t i 1) (fc t i 2) (fc t i 3)
  into : ∀ i,i < t.length → ic t i 4 = -1 ∨ (0 ≤ ic t i 4 ∧ ic t i 4 < t.length ∧ ic t i 4 ≠ i ∧ ic t (ic t i 4).toNat 4 = -1)
theorem share_pos {a : Nat} (ha : a < 4294967296) (h : r78 a = true) : a ≤ 1065353216 := by
  unfold r78 at h
  rw [(amount_eq a ha).2] at h
  by_cases h1 : a < 2139095040
  · rw [decide_eq_true h1,cond_true,fle_sv (by unfold Nn; omega) (by unfold Nn; decide) ha (by decide),decide_eq_true_eq,sv_pos (by omega),sv_pos (by decide)] at h
    exact rv_le_iff.1 (by omega)
  · rw [decide_eq_false h1] at h; cases h
theorem flue_ok {t : List (List Int)} (h : RowsOk S5 t) {i : Nat} (hi : i < t.length) (hb : flueB t i = true) : FlueOk (fc t i 0) (fc t i 1) (fc t i 2) (fc t i 3) := by
  have l0 := fc_lt h hi (j := 0) rfl
  have l1 := fc_lt h hi (j := 1) rfl
  have l2 := fc_lt h hi (j := 2) rfl
  have l3 := fc_lt h hi (j := 3) rfl
  unfold flueB r107 at hb
  rw [(amount_eq _ l0).2,(amount_eq _ l1).2] at hb
  by_cases g1 : fc t i 0 < 2139095040
  · rw [decide_eq_true g1,cond_true] at hb
    cases g2 : r146 (fc t i 0) 1031798784 1106247680 with
    | false => rw [g2] at hb; cases hb
    | true =>
    rw [g2,cond_true] at hb
    by_cases g3 : fc t i 1 < 2139095040
    · rw [decide_eq_true g3,cond_true] at hb
      cases g4 : r146 (fc t i 1) 1015021568 1082130432 with
      | false => rw [g4] at hb; cases hb
      | true =>
      rw [g4,cond_true] at hb
      cases g5 : r146 (fc t i 2) 3262119936 1153138688 with
      | false => rw [g5] at hb; cases hb
      | true =>
      rw [g5,cond_true] at hb
      have k0 := btw g2 (by unfold Nn; decide) (by unfold Nn; decide) (by decide) (by decide) l0
      have k1 := btw g4 (by unfold Nn; decide) (by unfold Nn; decide) (by decide) (by decide) l1
      have k2 := btw g5 (by unfold Nn; decide) (by unfold Nn; decide) (by decide) (by decide) l2
      exact ⟨g1,g3,share_pos l3 hb,k0.2.1,k0.2.2,k1.2.1,k1.2.2,k2.1,l2,k2.2.1,k2.2.2⟩
    · rw [decide_eq_false g3] at hb; cases hb
  · rw [decide_eq_false g1] at hb; cases hb
theorem valid_both {t : List (List Int)} (h : RowsOk S5 t) (hl : t.length ≤ 1048576) : ∃ b,r97 t = (0,b) ∧ r45 t = (0,b) ∧ (b = true → ChOk t) := by
  unfold r97 r45
  rw [loopS h hl (by omega),loopI hl (by omega)]
  unfold r66
  by_cases h1 : 1 ≤ t.length
  · rw [decide_eq_true (show (((t.length : Nat) : Int)) ≥ 1 by omega),decide_eq_false (show ¬ (((t.length : Nat) : Int)) < 1 by omega)]
    by_cases h2 : t.length ≤ 6
    · rw [decide_eq_true (show (((t.length : Nat) : Int)) ≤ 6 by omega),decide_eq_false (show ¬ (((t.length : Nat) : Int)) > 6 by omega)]
      cases e : allN t.length (pC t) with
      | false => exact ⟨false,rfl,rfl,fun e => by cases e⟩
      | true =>
        refine ⟨true,rfl,rfl,fun _ => ?_⟩
        have al := allN_true.1 e
        refine ⟨h,h1,h2,fun i hi => ?_,fun i hi => ?_⟩
        · have := al i hi
          unfold pC at this
          rw [Bool.and_eq_true] at this
          exact flue_ok h hi this.1
        · have := al i hi
          unfold pC at this
          rw [Bool.and_eq_true] at this
          have := this.2
          unfold intoB at this
          rw [Bool.or_eq_true,Bool.and_eq_true,decide_eq_true_eq,decide_eq_true_eq,decide_eq_true_eq] at this
          rcases this with g | ⟨⟨g1,g2,g3⟩,g4⟩
          · exact .inl g
          · exact .inr ⟨g1,g2,g3,g4⟩
    · rw [decide_eq_false (show ¬ (((t.length : Nat) : Int)) ≤ 6 by omega),decide_eq_true (show (((t.length : Nat) : Int)) > 6 by omega)]
      exact ⟨false,rfl,rfl,fun e => by cases e⟩
  · rw [decide_eq_false (show ¬ (((t.length : Nat) : Int)) ≥ 1 by omega),decide_eq_true (show (((t.length : Nat) : Int)) < 1 by omega)]
    exact ⟨false,rfl,rfl,fun e => by cases e⟩
structure WOk (o w : Nat) : Prop where
  on : Nn o
  o0 : o < 4294967296
  o1 : sv 3262119936 ≤ sv o
  o2 : sv o ≤ sv 1114636288
  wn : Nn w
  w0 : w < 4294967296
  w1 : sv 3296329728 ≤ sv w
  w2 : sv w ≤ sv 1148846080
theorem valid_ok {t : List (List Int)} (hc : ChOk t) : r97 t = (0,true) ∧ r45 t = (0,true) := by
  have n1 := hc.n1
  have n2 := hc.n2
  have ha : allN t.length (pC t) = true := allN_true.2 fun i hi => by
    have hib : intoB t i = true := by
      unfold intoB
      rcases hc.into i hi with h | ⟨h1,h2,h3,h4⟩
      · rw [decide_eq_true h]; rfl
      · rw [decide_eq_true (show 0 ≤ ic t i 4 ∧ ic t i 4 < t.length ∧ ic t i 4 ≠ i from ⟨h1,h2,h3⟩),decide_eq_true h4,Bool.true_and,Bool.or_true]
    have h := hc.flue i hi
    have hH := h.h
    have hW := h.w
    have hD := h.d
    have a1 : r142 (fc t i 0) = true := by rw [(amount_eq _ (by omega)).2]; exact decide_eq_true hH
    have a2 : r142 (fc t i 1) = true := by rw [(amount_eq _ (by omega)).2]; exact decide_eq_true hW
    have b1 : r146 (fc t i 0) 1031798784 1106247680 = true := by
      unfold r146
      rw [fge_sv (by unfold Nn; omega) (by unfold Nn; decide) (by omega) (by decide),fle_sv (by unfold Nn; omega) (by unfold Nn; decide) (by omega) (by decide),decide_eq_true h.h1,decide_eq_true h.h2]; rfl
    have b2 : r146 (fc t i 1) 1015021568 1082130432 = true := by
      unfold r146
      rw [fge_sv (by unfold Nn; omega) (by unfold Nn; decide) (by omega) (by decide),fle_sv (by unfold Nn; omega) (by unfold Nn; decide) (by omega) (by decide),decide_eq_true h.w1,decide_eq_true h.w2]; rfl
    have b3 : r146 (fc t i 2) 3262119936 1153138688 = true := by
      unfold r146
      rw [fge_sv h.tn (by unfold Nn; decide) h.t0 (by decide),fle_sv h.tn (by unfold Nn; decide) h.t0 (by decide),decide_eq_true h.t1,decide_eq_true h.t2]; rfl
    have d1 : r78 (fc t i 3) = true := by
      unfold r78
      rw [(amount_eq _ (by omega)).2,decide_eq_true (show fc t i 3 < 2139095040 by omega),fle_sv (by unfold Nn; omega) (by unfold Nn; decide) (by omega) (by decide)]
      refine decide_eq_true ?_
      rw [sv_pos (by omega),sv_pos (by decide)]
      exact Int.ofNat_le.2 (rv_le hD)
    unfold pC flueB r107
    rw [hib,a1,a2,b1,b2,b3,d1]
    rfl
  unfold r97 r45
  rw [loopS hc.rows (by omega) (by omega),loopI (by omega) (by omega),ha]
  unfold r66
  rw [decide_eq_true (show (((t.length : Nat) : Int)) ≥ 1 by omega),decide_eq_false (show ¬ (((t.length : Nat) : Int)) < 1 by omega),decide_eq_true (show (((t.length : Nat) : Int)) ≤ 6 by omega),decide_eq_false (show ¬ (((t.length : Nat) : Int)) > 6 by omega)]
  exact ⟨rfl,rfl⟩
theorem code_ok {t : List (List Int)} (hc : ChOk t) {o w : Nat} (hw : WOk o w) : r60 o w t = 2 ∧ r57 o w t = 2 := by
  obtain ⟨v1,v2⟩ := valid_ok hc
  have h1 : r81 o = true := by
    unfold r81 r146
    rw [fge_sv hw.on (by unfold Nn; decide) hw.o0 (by decide),fle_sv hw.on (by unfold Nn; decide) hw.o0 (by decide),decide_eq_true hw.o1,decide_eq_true hw.o2]; rfl
  have h2 : r124 w = true := by
    unfold r124 r146
    rw [fge_sv hw.wn (by unfold Nn; decide) hw.w0 (by decide),fle_sv hw.wn (by unfold Nn; decide) hw.w0 (by decide),decide_eq_true hw.w1,decide_eq_true hw.w2]; rfl
  unfold r60 r57
  rw [v1,v2,out_eq,push_eq,h1,h2]
  exact ⟨rfl,rfl⟩
end Go.Proofs.Ytmknfenjnladeaa

namespace Go.Proofs.Ytmknfenjnladeaa
open Go.Ab Ieee

theorem mul_bd {A B a b : Int} (h1 : -a ≤ A) (h2 : A ≤ a) (h3 : -b ≤ B) (h4 : B ≤ b) : -(a * b) ≤ A * B ∧ A * B ≤ a * b := by
  have e : ((A * B).natAbs : Int) ≤ a * b := by
    rw [Int.natAbs_mul,Int.natCast_mul]
    exact Int.mul_le_mul (by omega) (by omega) (by omega) (by omega)
  omega
theorem Fr_ub {a d c : Nat} {n v : Int} (h : Fr a n d) (hc : c < 2139095040) (ev : sv c = v) (g : n ≤ v * d) : sv a ≤ v := by
  rw [sv_pos (by omega)] at ev
  rw [← ev] at g ⊢
  exact h.le c hc g
theorem Fr_lb {a d c : Nat} {n v : Int} (h : Fr a n d) (hc : c < 2139095040) (ev : sv c = v) (g : v * d ≤ n) : v ≤ sv a := by
  rw [sv_pos (by omega)] at ev
  rw [← ev] at g ⊢
  exact h.ge c hc g
theorem Fr_lbn {a d c : Nat} {n v : Int} (h : Fr a n d) (hc : c < 2139095040) (ev : sv c = v) (g : -(v * d) ≤ n) : -v ≤ sv a := by
  rw [sv_pos (by omega)] at ev
  rw [← ev] at g ⊢
  exact h.ge' c hc g
theorem c0 : sv 0 = 0 := by decide +kernel
theorem cm60 : sv 3262119936 = -(60 * 2 ^ 149) := by decide +kernel
theorem c1500 : sv 1153138688 = 1500 * 2 ^ 149 := by decide +kernel
theorem c60 : sv 1114636288 = 60 * 2 ^ 149 := by decide +kernel
theorem cm1000 : sv 3296329728 = -(1000 * 2 ^ 149) := by decide +kernel
theorem c1000 : sv 1148846080 = 1000 * 2 ^ 149 := by decide +kernel
theorem c2000 : sv 1157234688 = 2000 * 2 ^ 149 := by decide +kernel
theorem c273 : sv 1133019136 = 273 * 2 ^ 149 := by decide +kernel
theorem c353 : sv 1135640576 = 353 * 2 ^ 149 := by decide +kernel
theorem c213 : sv 1129644032 = 213 * 2 ^ 149 := by decide +kernel
theorem c1773 : sv 1155375104 = 1773 * 2 ^ 149 := by decide +kernel
theorem c2 : sv 1073741824 = 2 * 2 ^ 149 := by decide +kernel
theorem c1 : sv 1065353216 = 2 ^ 149 := by decide +kernel
theorem c4 : sv 1082130432 = 4 * 2 ^ 149 := by decide +kernel
theorem c8 : sv 1090519040 = 8 * 2 ^ 149 := by decide +kernel
theorem c16 : sv 1098907648 = 16 * 2 ^ 149 := by decide +kernel
theorem c30 : sv 1106247680 = 30 * 2 ^ 149 := by decide +kernel
theorem c512 : sv 1140850688 = 512 * 2 ^ 149 := by decide +kernel
theorem c1024 : sv 1149239296 = 1024 * 2 ^ 149 := by decide +kernel
theorem c4096 : sv 1166016512 = 4096 * 2 ^ 149 := by decide +kernel
theorem c16th : sv 1031798784 = 2 ^ 145 := by decide +kernel
theorem c975 : 4 * sv 1092354048 = 39 * 2 ^ 149 := by decide +kernel
theorem c025 : sv 1048576000 = 2 ^ 147 := by decide +kernel
theorem c05 : sv 1056964608 = 2 ^ 148 := by decide +kernel
theorem cFM : 2 ^ 200 ≤ FM := by decide +kernel
theorem nn_fi {a : Nat} (h : Nn a) (h2 : a < 4294967296) {v : Int} (h3 : -v ≤ sv a) (h4 : sv a ≤ v) (hv : v ≤ FM) : Fi a := by
  unfold Nn at h
  unfold Fi
  have e := sv_abs a
  have g : ((rval F32 (a % 2147483648) : Nat) : Int) ≤ ((rval F32 2139095039 : Nat) : Int) := by
    show _ ≤ FM
    rw [← e]; omega
  have := rv_le_iff.1 (Int.ofNat_le.1 g)
  omega
theorem dns {a : Nat} (h1 : Fi a) (h2 : -(60 * 2 ^ 149) ≤ sv a) (h3 : sv a ≤ 1500 * 2 ^ 149) : Fi (r170 a) ∧ 0 ≤ sv (r170 a) ∧ sv (r170 a) ≤ 2 * 2 ^ 149 := by
  have f := cFM
  have a1 := add_fr h1 (b := 1133019136) (by unfold Fi; decide) (by rw [c273]; omega) (by rw [c273]; omega)
  rw [c273] at a1
  have l1 := Fr_lb a1 (by decide) c213 (by omega)
  have l2 := Fr_ub a1 (by decide) c1773 (by omega)
  unfold r170
  generalize fadd .f32 a 1133019136 = b at *
  have d1 := div_fr (a := 1135640576) (b := b) (by unfold Fi; decide) a1.fi (by omega) (by
    rw [c353]
    refine Int.le_trans ?_ (Int.mul_le_mul_of_nonneg_right f (by omega))
    refine Int.le_trans ?_ (Int.mul_le_mul_of_nonneg_left l1 (by decide))
    decide) (by
    rw [c353]
    have := Int.mul_nonneg (show 0 ≤ FM by omega) (show 0 ≤ sv b by omega)
    refine Int.le_trans (show -(FM * sv b) ≤ 0 by omega) ?_
    decide)
  rw [c353] at d1
  refine ⟨d1.fi,Fr_lb d1 (c := 0) (by decide) c0 (by rw [Int.zero_mul]; decide),Fr_ub d1 (by decide) c2 ?_⟩
  rw [Int.toNat_of_nonneg (by omega)]
  refine Int.le_trans ?_ (Int.mul_le_mul_of_nonneg_left l1 (by decide))
  decide
section
variable {H W T D o : Nat} (hf : FlueOk H W T D) (h3 : Nn o) (h0 : o < 4294967296) (h1 : sv 3262119936 ≤ sv o) (h2 : sv o ≤ sv 1114636288) (e : Int)
include hf h3 h0 h1 h2
theorem drf_ok : Fi (r159 H W T D e o) ∧ -(1024 * 2 ^ 149) ≤ sv (r159 H W T D e o) ∧ sv (r159 H W T D e o) ≤ 1024 * 2 ^ 149 := by
  have f := cFM
  have t1 := hf.t1
  have t2 := hf.t2
  have q1 := hf.h1
  have q2 := hf.h2
  rw [cm60] at h1 t1
  rw [c60] at h2
  rw [c1500] at t2
  rw [c16th] at q1
  rw [c30] at q2
  obtain ⟨a1,a2,a3⟩ := dns (a := o) (nn_fi h3 h0 (v := 60 * 2 ^ 149) (by omega) (by omega) (by omega)) (by omega) (by omega)
  obtain ⟨b1,b2,b3⟩ := dns (a := T) (nn_fi hf.tn hf.t0 (v := 1500 * 2 ^ 149) (by omega) (by omega) (by omega)) (by omega) (by omega)
  unfold r159
  generalize r170 o = x at *
  generalize r170 T = y at *
  have s1 := sub_fr a1 b1 (by omega) (by omega)
  have s2 := Fr_ub s1 (by decide) c2 (by omega)
  have s3 := Fr_lbn s1 (by decide) c2 (by omega)
  generalize fsub .f32 x y = z at *
  have k := c975
  have m1 := mul_fr (a := 1092354048) (b := H) (by unfold Fi; decide) (by have := hf.h; unfold Fi; omega) (by
    have : sv 1092354048 = 39 * 2 ^ 147 := by omega
    rw [this]; omega) (by
    have : sv 1092354048 = 39 * 2 ^ 147 := by omega
    rw [this]; omega)
  have k' : sv 1092354048 = 39 * 2 ^ 147 := by omega
  rw [k'] at m1
  have m2 := Fr_ub m1 (by decide) c512 (by
    have : ((2 ^ 149 : Nat) : Int) = 2 ^ 149 := by rw [Int.natCast_pow]; rfl
    rw [this]; omega)
  have m3 := Fr_lb m1 (c := 0) (by decide) c0 (by omega)
  generalize fmul .f32 1092354048 H = u at *
  have bd := mul_bd (A := sv u) (B := sv z) (a := 512 * 2 ^ 149) (b := 2 * 2 ^ 149) (by omega) (by omega) (by omega) (by omega)
  have n1 := mul_fr m1.fi s1.fi (by omega) (by omega)
  have cc : ((2 ^ 149 : Nat) : Int) = 2 ^ 149 := by rw [Int.natCast_pow]; rfl
  refine ⟨n1.fi,Fr_lbn n1 (by decide) c1024 (by rw [cc]; omega),Fr_ub n1 (by decide) c1024 (by rw [cc]; omega)⟩
end
theorem rung_le {a r : Nat} (ha : a < 2139095040) (hr : r < 2139095040) (h : sv a ≤ sv r) : a ≤ r := by
  rw [sv_pos (by omega),sv_pos (by omega)] at h
  exact rv_le_iff.1 (by omega)
theorem div_zero {a : Nat} (ha : a < 2139095040) (h0 : 0 < sv a) : fdiv .f32 a 0 = 2139095040 := by
  obtain ⟨s,m,i,e1,i1,v1⟩ := read_sv (a := a) (by unfold Fi; omega)
  have hm : m ≠ 0 := fun e => by
    rw [e,Nat.zero_mul] at v1
    cases s <;> simp at v1 <;> omega
  have hs : s = false := by
    cases s with
    | false => rfl
    | true => rw [if_pos rfl] at v1; omega
  subst hs
  have e2 : F32.read 0 = .number false 0 (-149) := by decide +kernel
  unfold fdiv Format.div
  rw [e1,e2]
  simp only [Datum.quotient,if_pos,if_neg hm,Option.map_some,Option.getD_some]
  decide +kernel
theorem res_ok {H W T D : Nat} (hf : FlueOk H W T D) (e : Int) : 1031798784 ≤ r160 H W T D e ∧ r160 H W T D e ≤ 2139095040 := by
  have lH := rung_le hf.h (by decide) hf.h2
  have lW := rung_le hf.w (by decide) hf.w2
  have lD := hf.d
  unfold r160
  have u1 : fmul .f32 1048576000 H ≤ 1090519040 := prod_pos (r1 := 1048576000) (r2 := 1106247680) (r := 1090519040) (by decide) lH (by decide) (by decide) (by decide) (by decide +kernel)
  generalize fmul .f32 1048576000 H = u at *
  have n1 : fadd .f32 1065353216 u ≤ 1098907648 := sum_pos (r1 := 1065353216) (r2 := 1090519040) (by decide) u1 (by decide) (by decide) (by decide) (by decide +kernel)
  have n2 : 2 ^ 149 ≤ sv (fadd .f32 1065353216 u) := by
    have f := cFM
    have p : 0 ≤ sv u := by rw [sv_pos (by omega)]; omega
    have q : sv u ≤ 8 * 2 ^ 149 := by
      rw [← c8,sv_pos (by omega),sv_pos (by decide)]
      exact Int.ofNat_le.2 (rv_le u1)
    have s1 := add_fr (a := 1065353216) (b := u) (by unfold Fi; decide) (by unfold Fi; omega) (by rw [c1]; omega) (by rw [c1]; omega)
    rw [c1] at s1
    exact Fr_lb s1 (by decide) c1 (by omega)
  generalize fadd .f32 1065353216 u = num at *
  have v1 : fmul .f32 W D ≤ 1082130432 := prod_pos (r1 := 1082130432) (r2 := 1065353216) (by omega) lD (by decide) (by decide) (by decide) (by decide +kernel)
  generalize fmul .f32 W D = v at *
  have d1 : fmul .f32 v v ≤ 1098907648 := prod_pos (r1 := 1082130432) (r2 := 1082130432) v1 v1 (by decide) (by decide) (by decide) (by decide +kernel)
  generalize fmul .f32 v v = den at *
  by_cases hd : den = 0
  · subst hd
    rw [div_zero (by omega) (by omega)]
    decide
  · have hdp : 0 < sv den := by
      rw [sv_pos (by omega)]
      have := (rval_lt_iff F32 0 den).2 (by omega)
      omega
    have hdl : sv den ≤ 16 * 2 ^ 149 := by
      rw [← c16,sv_pos (by omega),sv_pos (by decide)]
      exact Int.ofNat_le.2 (rv_le d1)
    exact div_ge (by omega) (by unfold Fi; omega) hdp (by decide) (by
      rw [← sv_pos (a := 1031798784) (by decide),c16th]
      refine Int.le_trans (Int.mul_le_mul_of_nonneg_left hdl (by decide)) ?_
      refine Int.le_trans ?_ (Int.mul_le_mul_of_nonneg_right n2 (by decide))
      decide)
structure PuOk (p : Nat) : Prop where
  f : Fi p
  l : p < 4294967296
  lo : -(2000 * 2 ^ 149) ≤ sv p
  hi : sv p ≤ 2000 * 2 ^ 149
section
variable {H W T D o p : Nat} (hf : FlueOk H W T D) (h3 : Nn o) (h0 : o < 4294967296) (h1 : sv 3262119936 ≤ sv o) (h2 : sv o ≤ sv 1114636288) (e : Int) (hp : PuOk p)
include hf h3 h0 h1 h2 hp
theorem x_ok : Fi (fdiv .f32 (fadd .f32 (r159 H W T D e o) p) (r160 H W T D e)) ∧ fdiv .f32 (fadd .f32 (r159 H W T D e o) p) (r160 H W T D e) < 4294967296 := by
  have f := cFM
  obtain ⟨d1,d2,d3⟩ := drf_ok hf h3 h0 h1 h2 e
  obtain ⟨q1,q2⟩ := res_ok hf e
  have p1 := hp.lo
  have p2 := hp.hi
  have s1 := add_fr d1 hp.f (by omega) (by omega)
  have s2 := Fr_ub s1 (by decide) c4096 (by omega)
  have s3 := Fr_lbn s1 (by decide) c4096 (by omega)
  refine ⟨?_,fdiv_lt _ _⟩
  generalize fadd .f32 (r159 H W T D e o) p = y at *
  generalize r160 H W T D e = q at *
  by_cases hq : q = 2139095040
  · subst hq
    obtain ⟨s,m,i,e1,i1,v1⟩ := read_sv s1.fi
    have e2 : F32.read 2139095040 = .infinity false := by decide +kernel
    unfold fdiv Format.div
    rw [e1,e2]
    simp only [Datum.quotient,Option.map_some,Option.getD_some]
    cases s <;> (unfold Fi; decide +kernel)
  · have hql : 2 ^ 145 ≤ sv q := by
      rw [← c16th,sv_pos (by decide),sv_pos (by omega)]
      exact Int.ofNat_le.2 (rv_le q1)
    have big := Int.mul_le_mul (a := 2 ^ 200) (b := 2 ^ 145) (c := FM) (d := sv q) f hql (by decide) (by omega)
    have big2 : 4096 * 2 ^ 149 * 2 ^ 149 ≤ FM * sv q := Int.le_trans (by decide) big
    exact (div_fr s1.fi (by unfold Fi; omega) (by omega) (Int.le_trans (Int.mul_le_mul_of_nonneg_right s2 (by decide)) big2) (by omega)).fi
end
theorem root_ok {a : Nat} (h : a < 2139095040 ∨ a = 2147483648) : ∃ q,r161 a = (0,q) ∧ Fi q ∧ q < 4294967296 ∧ (a = 2147483648 → q = 2147483648) ∧ (a < 2139095040 → q < 2139095040) := by
  unfold r161 r165
  rcases h with h | rfl
  · obtain ⟨q,q1,q2,q3,_⟩ := root_fr h
    rw [q2,q3]
    exact ⟨q,rfl,by unfold Fi; omega,by omega,fun e => by omega,fun _ => q1⟩
  · refine ⟨2147483648,by decide +kernel,by unfold Fi; decide,by decide,fun _ => rfl,fun g => by omega⟩
theorem zero_word {x : Nat} (h1 : 2147483648 ≤ x) (h2 : x < 4294967296) (h : ¬ sv x < 0) : x = 2147483648 := by
  rw [sv_neg h1 h2] at h
  have : rval F32 (x - 2147483648) = 0 := by omega
  have := rval_inj F32 (this.trans (rval_zero F32).symm)
  omega
noncomputable def thr (H W T D : Nat) (e : Int) (o p : Nat) : Nat := (r125 H W T D e o p).2
theorem thr_ok {H W T D o p : Nat} (hf : FlueOk H W T D) (h3 : Nn o) (h0 : o < 4294967296) (h1 : sv 3262119936 ≤ sv o) (h2 : sv o ≤ sv 1114636288) (e : Int) (hp : PuOk p) : r125 H W T D e o p = (0,thr H W T D e o p) ∧ Fi (thr H W T D e o p) ∧ thr H W T D e o p < 4294967296 := by
  obtain ⟨x1,x2⟩ := x_ok hf h3 h0 h1 h2 e hp
  have key : ∃ v,r125 H W T D e o p = (0,v) ∧ Fi v ∧ v < 4294967296 := by
    unfold r125
    generalize fdiv .f32 (fadd .f32 (r159 H W T D e o) p) (r160 H W T D e) = x at *
    cases feq .f32 D 0 with
    | true => exact ⟨0,rfl,by unfold Fi; decide,by decide⟩
    | false =>
      rw [flt_sv x1.nn (by unfold Nn; decide) x2 (by decide),c0]
      by_cases hx : sv x < 0
      · rw [decide_eq_true hx]
        have hx31 : 2147483648 ≤ x := Nat.le_of_not_lt fun g => by rw [sv_pos g] at hx; omega
        obtain ⟨b,rfl⟩ : ∃ b,x = 2147483648 + b := ⟨x - 2147483648,by omega⟩
        unfold Fi at x1
        rw [neg_neg (by omega)]
        obtain ⟨q,e1,e2,e3,_,e5⟩ := root_ok (a := b) (.inl (by omega))
        rw [e1]
        exact ⟨fneg .f32 q,rfl,e2.neg e3,fneg_lt _ e3⟩
      · rw [decide_eq_false hx]
        have hc : x < 2139095040 ∨ x = 2147483648 := by
          unfold Fi at x1
          by_cases g : x < 2147483648
          · exact .inl (by omega)
          · exact .inr (zero_word (by omega) x2 hx)
        obtain ⟨q,e1,e2,e3,_⟩ := root_ok hc
        rw [e1]
        exact ⟨q,rfl,e2,e3⟩
  obtain ⟨v,e1,e2,e3⟩ := key
  unfold thr
  rw [e1]
  exact ⟨rfl,e2,e3⟩
theorem flowS {t : List (List Int)} {i o p : Nat} (hi : i < t.length) (h : ∃ v,r125 (fc t i 0) (fc t i 1) (fc t i 2) (fc t i 3) (ic t i 4) o p = (0,v)) : r129 i o p t = r125 (fc t i 0) (fc t i 1) (fc t i 2) (fc t i 3) (ic t i 4) o p := by
  obtain ⟨v,h⟩ := h
  unfold r129 r163 r164
  rw [blt_t hi]
  unfold r125 r161 r159 r160 at h ⊢
  have e120 : ∀ a,r173 a = r170 a := fun a => rfl
  simp only [e120,cond_true,Nat.beq] at h ⊢
  cases feq .f32 (fc t i 3) 0 with
  | true => rfl
  | false =>
    simp only [cond_false]
    cases flt .f32 (fdiv .f32 (fadd .f32 (fmul .f32 (fmul .f32 1092354048 (fc t i 0)) (fsub .f32 (r170 o) (r170 (fc t i 2)))) p) (fdiv .f32 (fadd .f32 1065353216 (fmul .f32 1048576000 (fc t i 0))) (fmul .f32 (fmul .f32 (fc t i 1) (fc t i 3)) (fmul .f32 (fc t i 1) (fc t i 3))))) 0 with
    | true =>
      simp only [cond_true]
      cases narrowOk (r165 (widen (fneg .f32 (fdiv .f32 (fadd .f32 (fmul .f32 (fmul .f32 1092354048 (fc t i 0)) (fsub .f32 (r170 o) (r170 (fc t i 2)))) p) (fdiv .f32 (fadd .f32 1065353216 (fmul .f32 1048576000 (fc t i 0))) (fmul .f32 (fmul .f32 (fc t i 1) (fc t i 3)) (fmul .f32 (fc t i 1) (fc t i 3)))))))) <;> rfl
    | false =>
      simp only [cond_false]
      cases narrowOk (r165 (widen (fdiv .f32 (fadd .f32 (fmul .f32 (fmul .f32 1092354048 (fc t i 0)) (fsub .f32 (r170 o) (r170 (fc t i 2)))) p) (fdiv .f32 (fadd .f32 1065353216 (fmul .f32 1048576000 (fc t i 0))) (fmul .f32 (fmul .f32 (fc t i 1) (fc t i 3)) (fmul .f32 (fc t i 1) (fc t i 3))))))) <;> rfl
end Go.Proofs.Ytmknfenjnladeaa

namespace Go.Proofs.Ytmknfenjnladeaa
open Go.Ab Ieee

noncomputable def brF (t : List (List Int)) (k : Int) (i : Nat) : Option (List Int) := if ic t i 4 = k then some [(i : Int)] else none
noncomputable def brs (t : List (List Int)) (k : Int) : List (List Int) := (List.range t.length).filterMap (brF t k)
theorem brs_len (t : List (List Int)) (k : Int) : (brs t k).length ≤ t.length := by
  unfold brs
  have := List.length_filterMap_le (brF t k) (List.range t.length)
  rwa [List.length_range] at this
theorem brs_get {t : List (List Int)} {k : Int} {j : Nat} (hj : j < (brs t k).length) : ∃ i : Nat,i < t.length ∧ ic (brs t k) j 0 = (i : Int) ∧ ic t i 4 = k := by
  have h : (brs t k).getD j [] ∈ brs t k := by
    rw [List.getD_eq_getElem?_getD,List.getElem?_eq_getElem hj]
    exact List.getElem_mem hj
  unfold brs at h
  obtain ⟨i,hi,e⟩ := List.mem_filterMap.1 h
  refine ⟨i,List.mem_range.1 hi,?_⟩
  unfold brF at e
  by_cases g : ic t i 4 = k
  · rw [if_pos g] at e
    have e2 : (brs t k).getD j [] = [(i : Int)] := (Option.some.inj e).symm
    refine ⟨?_,g⟩
    show ((brs t k).getD j []).getD 0 0 = _
    rw [e2]; rfl
  · rw [if_neg g] at e; cases e
theorem brS {t : List (List Int)} (hl : t.length ≤ 6) (k : Int) : r133 k t = (0,brs t k) := by
  have lp := app_loop (n := t.length) (f := brF t k) (G := fun m s i => r133l0 m k i t s) (fuel := 1000 + 0 + t.length) ?_ ?_ (by omega)
  · unfold r133
    rcases lp with e | ⟨e,e'⟩
    · have e2 : r133l0 (1000 + 0 + t.length) k 0 t [] = _ := e
      rw [e2]; rfl
    · have e2 : r133l0 (1000 + 0 + t.length) k 0 t [] = _ := e
      rw [e2]; unfold brs; rw [e']; rfl
  · intro m s
    show b133l0 (r133l0 m) _ _ _ _ = _
    unfold b133l0
    rw [dlt_f (Nat.lt_irrefl _)]; rfl
  · intro m i s hi hs
    show b133l0 (r133l0 m) _ _ _ _ = _
    unfold b133l0 brF
    simp only [take_all,Int.toNat_natCast]
    rw [dlt_t hi,dle0,blt_t hi,wrap_succ (by omega),show Nat.ble ((s.length + 1) * 9) 140737488355328 = true from Nat.ble_eq_true_of_le (by omega)]
    show cond (ic t i 4 == k) _ _ = _
    by_cases g : ic t i 4 = k
    · rw [if_pos g,g,beq_self_eq_true]; rfl
    · rw [if_neg g,show (ic t i 4 == k) = false from beq_eq_false_iff_ne.2 g]; rfl
theorem brI {t : List (List Int)} (hl : t.length ≤ 6) (k : Int) : r131 k t = (0,brs t k) := by
  have lp := app_loop (n := t.length) (f := brF t k) (G := fun m s i => r131l0 m k ((t.length : Nat) : Int) i s t) (fuel := 1000 + t.length + 0) ?_ ?_ (by omega)
  · unfold r131
    rcases lp with e | ⟨e,e'⟩
    · have e2 : r131l0 (1000 + t.length + 0) k ((t.length : Nat) : Int) 0 [] t = _ := e
      rw [e2]; rfl
    · have e2 : r131l0 (1000 + t.length + 0) k ((t.length : Nat) : Int) 0 [] t = _ := e
      rw [e2]; unfold brs; rw [e']; rfl
  · intro m s
    show b131l0 (r131l0 m) _ _ _ _ _ = _
    unfold b131l0
    rw [dlt_f (Nat.lt_irrefl _)]; rfl
  · intro m i s hi hs
    show b131l0 (r131l0 m) _ _ _ _ _ = _
    unfold b131l0 brF
    simp only [take_all,Int.toNat_natCast]
    rw [dlt_t hi,dle0,blt_t hi,wrap_succ (by omega),show Nat.ble ((s.length + 1) * 9) 140737488355328 = true from Nat.ble_eq_true_of_le (by omega)]
    show cond (ic t i 4 == k) _ _ = _
    by_cases g : ic t i 4 = k
    · rw [if_pos g,g,beq_self_eq_true]; rfl
    · rw [if_neg g,show (ic t i 4 == k) = false from beq_eq_false_iff_ne.2 g]; rfl

theorem pu_neg {m : Nat} (f : Fi m) (lo : -(1000 * 2 ^ 149) ≤ sv m) (hi : sv m ≤ 1000 * 2 ^ 149) : PuOk (fsub .f32 0 m) := by
  have g := cFM
  have s := sub_fr (a := 0) (by unfold Fi; decide) f (by rw [c0]; omega) (by rw [c0]; omega)
  rw [c0] at s
  exact ⟨s.fi,s.lt,Fr_lbn s (by decide) c2000 (by omega),Fr_ub s (by decide) c2000 (by omega)⟩
theorem pu_wind {m w : Nat} (f : Fi m) (lo : -(1000 * 2 ^ 149) ≤ sv m) (hi : sv m ≤ 1000 * 2 ^ 149) (fw : Fi w) (wlo : -(1000 * 2 ^ 149) ≤ sv w) (whi : sv w ≤ 1000 * 2 ^ 149) : PuOk (fsub .f32 m w) := by
  have g := cFM
  have s := sub_fr f fw (by omega) (by omega)
  exact ⟨s.fi,s.lt,Fr_lbn s (by decide) c2000 (by omega),Fr_ub s (by decide) c2000 (by omega)⟩
structure BiOk (m : Nat) : Prop where
  f : Fi m
  l : m < 4294967296
  lo : -(1000 * 2 ^ 149) ≤ sv m
  hi : sv m ≤ 1000 * 2 ^ 149
theorem bi_mid {a b : Nat} (ha : BiOk a) (hb : BiOk b) : BiOk (fmul .f32 1056964608 (fadd .f32 a b)) := by
  have g := cFM
  have a1 := ha.lo
  have a2 := ha.hi
  have b1 := hb.lo
  have b2 := hb.hi
  have cc : ((2 ^ 149 : Nat) : Int) = 2 ^ 149 := by rw [Int.natCast_pow]; rfl
  have s := add_fr ha.f hb.f (by omega) (by omega)
  have s1 := Fr_ub s (by decide) c2000 (by omega)
  have s2 := Fr_lbn s (by decide) c2000 (by omega)
  have m := mul_fr (a := 1056964608) (by unfold Fi; decide) s.fi (by rw [c05]; omega) (by rw [c05]; omega)
  rw [c05] at m
  exact ⟨m.fi,m.lt,Fr_lbn m (by decide) c1000 (by rw [cc]; omega),Fr_ub m (by decide) c1000 (by rw [cc]; omega)⟩

section
variable {t : List (List Int)} {o w : Nat} (hc : ChOk t) (hw : WOk o w)
noncomputable def flo (t : List (List Int)) (o : Nat) (i p : Nat) : Nat := thr (fc t i 0) (fc t i 1) (fc t i 2) (fc t i 3) (ic t i 4) o p
include hc hw in
theorem floI {i p : Nat} (hi : i < t.length) (hp : PuOk p) : r125 (fc t i 0) (fc t i 1) (fc t i 2) (fc t i 3) (ic t i 4) o p = (0,flo t o i p) ∧ Fi (flo t o i p) ∧ flo t o i p < 4294967296 :=
  thr_ok (hc.flue i hi) hw.on hw.o0 hw.o1 hw.o2 _ hp
include hc hw in
theorem floS {i p : Nat} (hi : i < t.length) (hp : PuOk p) : r129 i o p t = (0,flo t o i p) := by
  have h := (floI hc hw hi hp).1
  rw [flowS hi ⟨_,h⟩,h]
noncomputable def sumB (t : List (List Int)) (o : Nat) (k : Int) (p : Nat) : Nat := foldN (fun j s => fadd .f32 s (flo t o (fc (brs t k) j 0) p)) ((brs t k).length - 1) 1 (flo t o (fc (brs t k) 0 0) p)
theorem fc_of {b : List (List Int)} {j i : Nat} (h : ic b j 0 = (i : Int)) : fc b j 0 = i := by
  show (ic b j 0).toNat = i
  rw [h]; rfl
include hc hw in
theorem sumS {k : Int} {m : Nat} (hm : BiOk m) (h0 : 0 < (brs t k).length) (x0 : Int) (x2 x3 x4 : Nat) (x5 : Int) {fuel : Nat} (hf : (brs t k).length < fuel) : r67l1 fuel x0 o x2 x3 x4 x5 m (flo t o (fc (brs t k) 0 0) (fsub .f32 0 m)) 1 t (brs t k) = (0,sumB t o k (fsub .f32 0 m)) := by
  have hp := pu_neg hm.f hm.lo hm.hi
  have hn := brs_len t k
  have h6 := hc.n2
  refine fold_at (n := (brs t k).length) (step := fun j s => fadd .f32 s (flo t o (fc (brs t k) j 0) (fsub .f32 0 m))) (mk := fun s => (0,s)) (G := fun f s i => r67l1 f x0 o x2 x3 x4 x5 m s i t (brs t k)) ?_ ?_ ((brs t k).length - 1) 1 fuel _ (by omega) (by omega)
  · intro f s
    show b67l1 (r67l1 f) _ _ _ _ _ _ _ _ _ _ _ = _
    unfold b67l1
    rw [dlt_f (Nat.lt_irrefl _)]; rfl
  · intro f j s hj
    show b67l1 (r67l1 f) _ _ _ _ _ _ _ _ _ _ _ = _
    unfold b67l1
    obtain ⟨i,hi,e,_⟩ := brs_get hj
    rw [dlt_t hj,dle0,Int.toNat_natCast,blt_t hj,wrap_succ (by omega)]
    have e' : ((brs t k).getD j []).getD 0 0 = (i : Int) := e
    rw [fc_of e]
    simp only [e',Int.toNat_natCast]
    rw [dle0,blt_t hi,floS hc hw hi hp]
    rfl
include hc hw in
theorem listI {k : Int} {m : Nat} (hm : BiOk m) (x0 : Int) (x2 x3 x4 : Nat) (x6 : Int) {fuel : Nat} (hf : (brs t k).length < fuel) (h0 : 0 < (brs t k).length) : r65l1 fuel x0 o x2 x3 x4 m x6 (((brs t k).length : Nat) : Int) 0 t (brs t k) [] = (0,(List.range (brs t k).length).map fun j => [((flo t o (fc (brs t k) j 0) (fsub .f32 0 m) : Nat) : Int)]) := by
  have hp := pu_neg hm.f hm.lo hm.hi
  have hn := brs_len t k
  have h6 := hc.n2
  have lp := app_loop (n := (brs t k).length) (f := fun j => some [((flo t o (fc (brs t k) j 0) (fsub .f32 0 m) : Nat) : Int)]) (G := fun f s i => r65l1 f x0 o x2 x3 x4 m x6 (((brs t k).length : Nat) : Int) i t (brs t k) s) (fuel := fuel) ?_ ?_ hf
  · have em : (List.range (brs t k).length).filterMap (fun j => some [((flo t o (fc (brs t k) j 0) (fsub .f32 0 m) : Nat) : Int)]) = (List.range (brs t k).length).map fun j => [((flo t o (fc (brs t k) j 0) (fsub .f32 0 m) : Nat) : Int)] := congrFun List.filterMap_eq_map' _
    rw [em] at lp
    rcases lp with e | ⟨_,e'⟩
    · exact e
    · have := congrArg List.length e'
      rw [List.length_map,List.length_range] at this
      exact absurd this (by show ¬ (brs t k).length = 0; omega)
  · intro f s
    show b65l1 (r65l1 f) _ _ _ _ _ _ _ _ _ _ _ _ = _
    unfold b65l1
    rw [dlt_f (Nat.lt_irrefl _)]; rfl
  · intro f j s hj hs
    show b65l1 (r65l1 f) _ _ _ _ _ _ _ _ _ _ _ _ = _
    unfold b65l1
    obtain ⟨i,hi,e,_⟩ := brs_get hj
    simp only [take_all,Int.toNat_natCast]
    rw [dlt_t hj,dle0,blt_t hj,wrap_succ (by omega),show Nat.ble ((s.length + 1) * 5) 140737488355328 = true from Nat.ble_eq_true_of_le (by omega)]
    have e' : ((brs t k).getD j []).getD 0 0 = (i : Int) := e
    rw [fc_of e]
    simp only [e',Int.toNat_natCast]
    have h := (floI hc hw hi hp).1
    rw [dle0,blt_t hi,h]
    rfl
end
theorem map_getD {α : Type} {f : Nat → α} {n j : Nat} (hj : j < n) {d : α} : ((List.range n).map f).getD j d = f j := by
  simp [List.getD,hj]
theorem sumI {n : Nat} (hn : 0 < n) (hs : n ≤ 6) (g : Nat → Nat) : r132 ((List.range n).map fun j => [((g j : Nat) : Int)]) = (0,foldN (fun j s => fadd .f32 s (g j)) (n - 1) 1 (g 0)) := by
  have hl : ((List.range n).map fun j => [((g j : Nat) : Int)]).length = n := by simp
  have hg : ∀ j,j < n → Int.toNat ((((List.range n).map fun j => [((g j : Nat) : Int)]).getD j []).getD 0 0) = g j := fun j hj => by
    rw [map_getD hj]; rfl
  generalize ((List.range n).map fun j => [((g j : Nat) : Int)]) = L at *
  have lp : r132l0 (1000 + L.length) (g 0) (n - 1) (n - 1) (((n - 1 : Nat)) : Int) 0 L = (0,foldN (fun j s => fadd .f32 s (g (1 + j))) (n - 1) 0 (g 0)) := by
    refine fold_at (n := n - 1) (step := fun j s => fadd .f32 s (g (1 + j))) (mk := fun s => (0,s)) (G := fun f s i => r132l0 f s (n - 1) (n - 1) (((n - 1 : Nat)) : Int) i L) ?_ ?_ (n - 1) 0 _ _ (by omega) (by omega)
    · intro f s
      show b132l0 (r132l0 f) _ _ _ _ _ _ = _
      unfold b132l0
      rw [dlt_f (Nat.lt_irrefl _)]; rfl
    · intro f j s hj
      show b132l0 (r132l0 f) _ _ _ _ _ _ = _
      unfold b132l0
      rw [dlt_t hj,dle0,Int.toNat_natCast,blt_t hj,wrap_succ (by omega),hg (1 + j) (by omega),blt_t (show 1 + j < L.length by omega)]
      rfl
  rw [foldN_shift (fun j s => fadd .f32 s (g j))] at lp
  unfold r132
  rw [hg 0 hn,hl] at *
  rw [blt_t hn]
  by_cases h1 : 1 < n
  · rw [blt_t h1,show Nat.ble 1 n = true from Nat.ble_eq_true_of_le (by omega),show Nat.ble n n = true from Nat.ble_eq_true_of_le (Nat.le_refl _)]
    rw [lp]; rfl
  · have : n = 1 := by omega
    subst this
    rfl
noncomputable def atStep (t : List (List Int)) (o w k : Nat) (_ : Nat) (b : Nat × Nat) : Nat × Nat :=
  cond (fgt .f32 (sumB t o (k : Int) (fsub .f32 0 (fmul .f32 1056964608 (fadd .f32 b.1 b.2)))) (flo t o k (fsub .f32 (fmul .f32 1056964608 (fadd .f32 b.1 b.2)) w))) (fmul .f32 1056964608 (fadd .f32 b.1 b.2),b.2) (b.1,fmul .f32 1056964608 (fadd .f32 b.1 b.2))
noncomputable def atP (t : List (List Int)) (o w k : Nat) : Nat := if (brs t (k : Int)).length = 0 then 0 else (foldN (atStep t o w k) 40 0 (3296329728,1148846080)).2
def BiOk2 (b : Nat × Nat) : Prop := BiOk b.1 ∧ BiOk b.2
theorem atStep_ok {t : List (List Int)} {o w k i : Nat} {b : Nat × Nat} (h : BiOk2 b) : BiOk2 (atStep t o w k i b) := by
  have m := bi_mid h.1 h.2
  unfold atStep
  cases fgt .f32 (sumB t o (k : Int) (fsub .f32 0 (fmul .f32 1056964608 (fadd .f32 b.1 b.2)))) (flo t o k (fsub .f32 (fmul .f32 1056964608 (fadd .f32 b.1 b.2)) w)) with
  | true => exact ⟨m,h.2⟩
  | false => exact ⟨h.1,m⟩
theorem bi_start : BiOk2 (3296329728,1148846080) := ⟨⟨by unfold Fi; decide,by decide,by rw [cm1000]; omega,by rw [cm1000]; omega⟩,⟨by unfold Fi; decide,by decide,by rw [c1000]; omega,by rw [c1000]; omega⟩⟩
theorem fold_ok {t : List (List Int)} {o w k : Nat} : ∀ (n i : Nat) {b : Nat × Nat},BiOk2 b → BiOk2 (foldN (atStep t o w k) n i b)
  | 0,_,_,h => h
  | n + 1,i,_,h => fold_ok n (i + 1) (atStep_ok h)
theorem at_ok (t : List (List Int)) (o w k : Nat) : BiOk (atP t o w k) := by
  unfold atP
  split
  · exact ⟨by unfold Fi; decide,by decide,by rw [c0]; omega,by rw [c0]; omega⟩
  · exact (fold_ok 40 0 bi_start).2
section
variable {t : List (List Int)} {o w : Nat} (hc : ChOk t) (hw : WOk o w)
include hw in
theorem w_fi : Fi w ∧ -(1000 * 2 ^ 149) ≤ sv w ∧ sv w ≤ 1000 * 2 ^ 149 := by
  have g := cFM
  have h1 := hw.w1
  have h2 := hw.w2
  rw [cm1000] at h1
  rw [c1000] at h2
  exact ⟨nn_fi hw.wn hw.w0 (v := 1000 * 2 ^ 149) (by omega) (by omega) (by omega),by omega,by omega⟩
include hc hw
theorem atS {k : Nat} (hk : k < t.length) : r67 (k : Int) o w t = (0,atP t o w k) := by
  have h6 := hc.n2
  have hn := brs_len t (k : Int)
  obtain ⟨f1,f2,f3⟩ := w_fi hw
  unfold r67 atP
  rw [brS h6]
  by_cases h0 : (brs t (k : Int)).length = 0
  · rw [if_pos h0]
    show cond true (cond ((((brs t (k : Int)).length : Nat) : Int) == 0) _ _) _ = _
    rw [h0]; rfl
  · rw [if_neg h0]
    have lp : r67l0 (1000 + (brs t (k : Int)).length + t.length) (k : Int) o w 3296329728 1148846080 0 t (brs t (k : Int)) = (0,(foldN (atStep t o w k) 40 0 (3296329728,1148846080)).2) := by
      refine fold_loop (n := 40) (step := atStep t o w k) (mk := fun b => (0,b.2)) (G := fun f b i => r67l0 f (k : Int) o w b.1 b.2 i t (brs t (k : Int))) (s := (3296329728,1148846080)) (fun _ b => BiOk2 b) ?_ ?_ (fun i b _ h => atStep_ok h) (by omega) bi_start
      · intro f b _
        show b67l0 (r67l0 f) _ _ _ _ _ _ _ _ = _
        unfold b67l0
        rw [show decide (((40 : Nat) : Int) < 40) = false from rfl]; rfl
      · intro f i b hi hb
        show b67l0 (r67l0 f) _ _ _ _ _ _ _ _ = _
        have hm := bi_mid hb.1 hb.2
        have hp := pu_neg hm.f hm.lo hm.hi
        have hpw := pu_wind hm.f hm.lo hm.hi f1 f2 f3
        unfold b67l0 atStep
        generalize fmul .f32 1056964608 (fadd .f32 b.1 b.2) = m at *
        obtain ⟨i0,hi0,e0,_⟩ := brs_get (show 0 < (brs t (k : Int)).length by omega)
        have e0' : ((brs t (k : Int)).getD 0 []).getD 0 0 = (i0 : Int) := e0
        have q1 := floS hc hw hi0 hp
        have q2 := sumS hc hw (k := (k : Int)) hm (by omega) (k : Int) w b.1 b.2 (i : Int) (fuel := 1000 + (brs t (k : Int)).length + t.length) (by omega)
        have q3 := floS hc hw hk hpw
        rw [fc_of e0] at q2
        simp only [e0',Int.toNat_natCast,q1,q2,q3]
        rw [show decide (((i : Nat) : Int) < 40) = true from decide_eq_true (by omega),blt_t (show 0 < (brs t (k : Int)).length by omega),dle0,dle0,blt_t hi0,blt_t hk,wrap_succ (by omega)]
        simp only [cond_true,Bool.and_self,Nat.beq]
        cases fgt .f32 (sumB t o (k : Int) (fsub .f32 0 m)) (flo t o k (fsub .f32 m w)) <;> rfl
    rw [lp]
    show cond true (cond ((((brs t (k : Int)).length : Nat) : Int) == 0) _ _) _ = _
    rw [show ((((brs t (k : Int)).length : Nat) : Int) == 0) = false from beq_eq_false_iff_ne.2 (by omega)]
    rfl
theorem atI {k : Nat} (hk : k < t.length) : r65 (k : Int) o w t = (0,atP t o w k) := by
  have h6 := hc.n2
  have hn := brs_len t (k : Int)
  obtain ⟨f1,f2,f3⟩ := w_fi hw
  unfold r65 atP
  rw [brI h6]
  by_cases h0 : (brs t (k : Int)).length = 0
  · rw [if_pos h0]
    show cond true (cond ((((brs t (k : Int)).length : Nat) : Int) == 0) _ _) _ = _
    rw [h0]; rfl
  · rw [if_neg h0]
    have lp : r65l0 (1000 + (brs t (k : Int)).length + t.length) (k : Int) o w 3296329728 1148846080 0 t (brs t (k : Int)) = (0,(foldN (atStep t o w k) 40 0 (3296329728,1148846080)).2) := by
      refine fold_loop (n := 40) (step := atStep t o w k) (mk := fun b => (0,b.2)) (G := fun f b i => r65l0 f (k : Int) o w b.1 b.2 i t (brs t (k : Int))) (s := (3296329728,1148846080)) (fun _ b => BiOk2 b) ?_ ?_ (fun i b _ h => atStep_ok h) (by omega) bi_start
      · intro f b _
        show b65l0 (r65l0 f) _ _ _ _ _ _ _ _ = _
        unfold b65l0
        rw [show decide (((40 : Nat) : Int) < 40) = false from rfl]; rfl
      · intro f i b hi hb
        show b65l0 (r65l0 f) _ _ _ _ _ _ _ _ = _
        have hm := bi_mid hb.1 hb.2
        have hp := pu_neg hm.f hm.lo hm.hi
        have hpw := pu_wind hm.f hm.lo hm.hi f1 f2 f3
        unfold b65l0 atStep
        generalize fmul .f32 1056964608 (fadd .f32 b.1 b.2) = m at *
        have q1 := listI hc hw (k := (k : Int)) hm (k : Int) w b.1 b.2 (i : Int) (fuel := 1000 + 0 + (brs t (k : Int)).length + t.length) (by omega) (by omega)
        have q2 := sumI (n := (brs t (k : Int)).length) (by omega) (by omega) (fun j => flo t o (fc (brs t (k : Int)) j 0) (fsub .f32 0 m))
        have q3 := (floI hc hw hk hpw).1
        simp only [q1,q2,q3,Int.toNat_natCast]
        rw [show decide (((i : Nat) : Int) < 40) = true from decide_eq_true (by omega),dle0,blt_t hk,wrap_succ (by omega)]
        simp only [cond_true,Bool.and_self,Nat.beq]
        show cond (fgt .f32 (sumB t o (k : Int) (fsub .f32 0 m)) _) _ _ = _
        cases fgt .f32 (sumB t o (k : Int) (fsub .f32 0 m)) (flo t o k (fsub .f32 m w)) <;> rfl
    rw [lp]
    show cond true (cond ((((brs t (k : Int)).length : Nat) : Int) == 0) _ _) _ = _
    rw [show ((((brs t (k : Int)).length : Nat) : Int) == 0) = false from beq_eq_false_iff_ne.2 (by omega)]
    rfl
end
end Go.Proofs.Ytmknfenjnladeaa

namespace Go.Proofs.Ytmknfenjnladeaa
open Go.Ab Ieee

theorem num_fi {v : Nat} (h : Fi v) : r94 v = 1 := by
  unfold r94
  rw [fin_spec,decide_eq_true (show v % 2147483648 < 2139095040 from h)]; rfl
noncomputable def fl (t : List (List Int)) (o w i : Nat) : Nat := if ic t i 4 = -1 then flo t o i (fsub .f32 (atP t o w i) w) else flo t o i (fsub .f32 0 (atP t o w (ic t i 4).toNat))
noncomputable def flows (t : List (List Int)) (o w : Nat) : List (List Int) := (List.range t.length).map fun i => [((fl t o w i : Nat) : Int)]
theorem flows_len (t : List (List Int)) (o w : Nat) : (flows t o w).length = t.length := by unfold flows; simp
theorem flows_get {t : List (List Int)} {o w i : Nat} (hi : i < t.length) : fc (flows t o w) i 0 = fl t o w i := by
  show Int.toNat (((flows t o w).getD i []).getD 0 0) = _
  unfold flows
  rw [map_getD hi]; rfl
section
variable {t : List (List Int)} {o w : Nat} (hc : ChOk t) (hw : WOk o w)
include hc hw
theorem fl_ok {i : Nat} (hi : i < t.length) : Fi (fl t o w i) ∧ fl t o w i < 4294967296 := by
  obtain ⟨f1,f2,f3⟩ := w_fi hw
  unfold fl
  split
  · have a := at_ok t o w i
    exact (floI hc hw hi (pu_wind a.f a.lo a.hi f1 f2 f3)).2
  · have a := at_ok t o w (ic t i 4).toNat
    exact (floI hc hw hi (pu_neg a.f a.lo a.hi)).2
theorem flowsI : r58 o w t = (0,flows t o w) := by
  obtain ⟨f1,f2,f3⟩ := w_fi hw
  have n1 := hc.n1
  have n2 := hc.n2
  have lp := app_loop (n := t.length) (f := fun i => some [((fl t o w i : Nat) : Int)]) (G := fun m s i => r58l0 m o w ((t.length : Nat) : Int) i t s) (fuel := 1000 + 0 + t.length) ?_ ?_ (by omega)
  · have em : (List.range t.length).filterMap (fun i => some [((fl t o w i : Nat) : Int)]) = flows t o w := congrFun List.filterMap_eq_map' _
    rw [em] at lp
    unfold r58
    rcases lp with e | ⟨_,e'⟩
    · have e2 : r58l0 (1000 + 0 + t.length) o w ((t.length : Nat) : Int) 0 t [] = _ := e
      rw [e2]; rfl
    · have := congrArg List.length e'
      rw [flows_len] at this
      exact absurd this (by show ¬ t.length = 0; omega)
  · intro m s
    show b58l0 (r58l0 m) _ _ _ _ _ _ = _
    unfold b58l0
    rw [dlt_f (Nat.lt_irrefl _)]; rfl
  · intro m i s hi hs
    show b58l0 (r58l0 m) _ _ _ _ _ _ = _
    unfold b58l0
    simp only [take_all,Int.toNat_natCast]
    rw [dlt_t hi,dle0,blt_t hi,wrap_succ (by omega),show Nat.ble ((s.length + 1) * 5) 140737488355328 = true from Nat.ble_eq_true_of_le (by omega)]
    show cond (ic t i 4 == -1) _ _ = _
    have hin := hc.into i hi
    by_cases h1 : ic t i 4 = -1
    · have a := at_ok t o w i
      have q := (floI hc hw hi (pu_wind a.f a.lo a.hi f1 f2 f3)).1
      have e : fl t o w i = flo t o i (fsub .f32 (atP t o w i) w) := by unfold fl; rw [if_pos h1]
      rw [atI hc hw hi,e]
      simp only [q]
      rw [show (ic t i 4 == -1) = true from by rw [h1]; rfl]
      rfl
    · obtain ⟨i0,i1,_,_⟩ := hin.resolve_left h1
      obtain ⟨k,hk⟩ : ∃ k : Nat,ic t i 4 = (k : Int) := ⟨(ic t i 4).toNat,by omega⟩
      have a := at_ok t o w k
      have q := (floI hc hw hi (pu_neg a.f a.lo a.hi)).1
      have e : fl t o w i = flo t o i (fsub .f32 0 (atP t o w k)) := by unfold fl; rw [if_neg h1,hk]; rfl
      have q2 : r65 (ic t i 4) o w t = (0,atP t o w k) := by rw [hk]; exact atI hc hw (by omega)
      rw [show (ic t i 4 == -1) = false from beq_eq_false_iff_ne.2 h1]
      show cond (Nat.beq (r65 (ic t i 4) o w t).1 0) (cond (Nat.beq (r125 (fc t i 0) (fc t i 1) (fc t i 2) (fc t i 3) (ic t i 4) o (fsub .f32 0 (r65 (ic t i 4) o w t).2)).1 0) _ _) _ = _
      simp only [q2,q]
      rw [e]
      rfl
theorem flowsS : r61 o w t = (1,flows t o w) := by
  obtain ⟨f1,f2,f3⟩ := w_fi hw
  have n1 := hc.n1
  have n2 := hc.n2
  have key : ∀ k i fuel s,i + k = t.length → k < fuel → s.length ≤ i → r61l0 fuel o w (i : Int) t s = (2,[],s ++ (List.range' i k).map fun i => [((fl t o w i : Nat) : Int)]) ∨ (k = 0 ∧ r61l0 fuel o w (i : Int) t s = (3,[],[])) := by
    intro k
    induction k with
    | zero =>
      intro i fuel s h hf hs
      obtain ⟨m,rfl⟩ : ∃ m,fuel = m + 1 := ⟨fuel - 1,by omega⟩
      refine .inr ⟨rfl,?_⟩
      show b61l0 (r61l0 m) _ _ _ _ _ = _
      unfold b61l0
      rw [dlt_f (by omega)]; rfl
    | succ k ih =>
      intro i fuel s h hf hs
      obtain ⟨m,rfl⟩ : ∃ m,fuel = m + 1 := ⟨fuel - 1,by omega⟩
      have hi : i < t.length := by omega
      refine .inl ?_
      have hih := ih (i + 1) m (s ++ [[((fl t o w i : Nat) : Int)]]) (by omega) (by omega) (by simp; omega)
      rw [List.range'_succ,List.map_cons]
      show b61l0 (r61l0 m) _ _ _ _ _ = _
      unfold b61l0
      simp only [take_all,Int.toNat_natCast]
      rw [dlt_t hi,dle0,blt_t hi,wrap_succ (by omega),show Nat.ble ((s.length + 1) * 5) 140737488355328 = true from Nat.ble_eq_true_of_le (by omega)]
      show cond (ic t i 4 == -1) _ (cond (Nat.beq (r67 (ic t i 4) o w t).1 0) (cond (Nat.beq (r129 i o (fsub .f32 0 (r67 (ic t i 4) o w t).2) t).1 0) _ _) _) = _
      have hin := hc.into i hi
      by_cases h1 : ic t i 4 = -1
      · have a := at_ok t o w i
        have hp := pu_wind a.f a.lo a.hi f1 f2 f3
        have q := floS hc hw hi hp
        have qf := (floI hc hw hi hp).2.1
        have e : fl t o w i = flo t o i (fsub .f32 (atP t o w i) w) := by unfold fl; rw [if_pos h1]
        rw [e] at hih ⊢
        rw [atS hc hw hi,show (ic t i 4 == -1) = true from by rw [h1]; rfl]
        simp only [q,num_fi qf]
        rcases hih with hih | ⟨h0,hih⟩
        · rw [hih]; simp [Nat.beq]
        · subst h0; rw [hih]; simp [Nat.beq]
      · obtain ⟨i0,i1,_,_⟩ := hin.resolve_left h1
        obtain ⟨j,hj⟩ : ∃ j : Nat,ic t i 4 = (j : Int) := ⟨(ic t i 4).toNat,by omega⟩
        have a := at_ok t o w j
        have hp := pu_neg a.f a.lo a.hi
        have q := floS hc hw hi hp
        have qf := (floI hc hw hi hp).2.1
        have e : fl t o w i = flo t o i (fsub .f32 0 (atP t o w j)) := by unfold fl; rw [if_neg h1,hj]; rfl
        have q2 : r67 (ic t i 4) o w t = (0,atP t o w j) := by rw [hj]; exact atS hc hw (by omega)
        rw [e] at hih ⊢
        rw [show (ic t i 4 == -1) = false from beq_eq_false_iff_ne.2 h1,q2]
        have q3 : r67 ((t.getD i []).getD 4 0) o w t = (0,atP t o w j) := q2
        simp only [q3,q,num_fi qf]
        rcases hih with hih | ⟨h0,hih⟩
        · rw [hih]; simp [Nat.beq]
        · subst h0; rw [hih]; simp [Nat.beq]
  have k0 := key t.length 0 (1000 + 0 + t.length) [] (by omega) (by omega) (Nat.le_refl _)
  unfold r61
  rcases k0 with k0 | ⟨h0,_⟩
  · have e2 : r61l0 (1000 + 0 + t.length) o w 0 t [] = _ := k0
    rw [e2]
    unfold flows
    rw [List.range_eq_range']
    rfl
  · omega
end
theorem fin_all {l : List (List Int)} (hl : l.length ≤ 1048576) (hf : ∀ i,i < l.length → Fi (fc l i 0)) : r59b l = (0,true) := by
  have key : r59l0c (1000 + l.length) ((l.length : Nat) : Int) 0 l = 1 := by
    have := all_loop (n := l.length) (p := fun _ => true) (yes := 1) (no := 0) (G := fun m i => r59l0c m ((l.length : Nat) : Int) i l) (fuel := 1000 + l.length) ?_ ?_ (by omega)
    · rw [this,show allN l.length (fun _ => true) = true from allN_true.2 (fun _ _ => rfl)]; rfl
    · intro m
      show b59l0c (r59l0c m) _ _ _ = _
      unfold b59l0c
      rw [dlt_f (Nat.lt_irrefl _)]; rfl
    · intro m i hi
      show b59l0c (r59l0c m) _ _ _ = _
      unfold b59l0c
      have e : cond (r126 (widen (fc l i 0))) false (cond (r127 (widen (fc l i 0)) 0) false true) = true := by
        have e56 : r59 (fc l i 0) = cond (r126 (widen (fc l i 0))) false (cond (r127 (widen (fc l i 0)) 0) false true) := by unfold r59 r59l0b; cases r126 (widen (fc l i 0)) <;> cases r127 (widen (fc l i 0)) 0 <;> rfl
        rw [← e56,fin_impl]; exact decide_eq_true (hf i hi)
      rw [dlt_t hi,dle0,Int.toNat_natCast,blt_t hi,wrap_succ (by omega)]
      cases e1 : r126 (widen (fc l i 0)) with
      | true => rw [e1] at e; cases e
      | false =>
        cases e2 : r127 (widen (fc l i 0)) 0 with
        | true => rw [e1,e2] at e; cases e
        | false => rfl
  unfold r59b; rw [key]; rfl
theorem w1 {k : Int} (h0 : 0 ≤ k) (h1 : k ≤ 1000000000) : IntKind.i64.wrap (k + 1) = k + 1 := wrap_i64 (by omega) (by omega)
end Go.Proofs.Ytmknfenjnladeaa

namespace Go.Proofs.Ytmknfenjnladeaa
open Go.Ab Ieee

noncomputable def bkF (l : List (List Int)) (i : Nat) : Option (List Int) := if flt .f32 (fc l i 0) 0 = true then some [(i : Int)] else none
noncomputable def back (l : List (List Int)) : List (List Int) := (List.range l.length).filterMap (bkF l)
theorem backI {l : List (List Int)} (hl : l.length ≤ 6) : r62 l = (0,back l) := by
  have lp := app_loop (n := l.length) (f := bkF l) (G := fun m s i => r62l0 m ((l.length : Nat) : Int) i s l) (fuel := 1000 + l.length + 0) ?_ ?_ (by omega)
  · unfold r62
    rcases lp with e | ⟨e,e'⟩
    · have e2 : r62l0 (1000 + l.length + 0) ((l.length : Nat) : Int) 0 [] l = _ := e
      rw [e2]; rfl
    · have e2 : r62l0 (1000 + l.length + 0) ((l.length : Nat) : Int) 0 [] l = _ := e
      rw [e2]; unfold back; rw [e']; rfl
  · intro m s
    show b62l0 (r62l0 m) _ _ _ _ = _
    unfold b62l0
    rw [dlt_f (Nat.lt_irrefl _)]; rfl
  · intro m i s hi hs
    show b62l0 (r62l0 m) _ _ _ _ = _
    unfold b62l0 bkF
    simp only [take_all,Int.toNat_natCast]
    rw [dlt_t hi,dle0,blt_t hi,wrap_succ (by omega),show Nat.ble ((s.length + 1) * 9) 140737488355328 = true from Nat.ble_eq_true_of_le (by omega)]
    cases flt .f32 (fc l i 0) 0 <;> rfl
end Go.Proofs.Ytmknfenjnladeaa

namespace Go.Proofs.Ytmknfenjnladeaa
open Go.Ab Ieee

theorem smokeS {t S : List (List Int)} (hl : S.length ≤ 1048576) : r99 t S = (0,allN S.length (fun i => r150 (fc S i 0)) && decide (S.length = t.length)) := by
  have lp : r99l0 (1000 + S.length + t.length) 0 t S = cond (allN S.length (fun i => r150 (fc S i 0))) 1 0 := by
    refine all_loop (n := S.length) (p := fun i => r150 (fc S i 0)) (yes := 1) (no := 0) (G := fun m i => r99l0 m i t S) ?_ ?_ (by omega)
    · intro m
      show b99l0 (r99l0 m) _ _ _ = _
      unfold b99l0
      rw [dlt_f (Nat.lt_irrefl _)]; rfl
    · intro m i hi
      show b99l0 (r99l0 m) _ _ _ = _
      unfold b99l0
      rw [dlt_t hi,dle0,Int.toNat_natCast,blt_t hi,wrap_succ (by omega)]
      show cond true (cond (!r150 (fc S i 0)) _ _) _ = _
      cases r150 (fc S i 0) <;> rfl
  have e : ((((S.length : Nat) : Int) : Int) == ((t.length : Nat) : Int)) = decide (S.length = t.length) := by
    by_cases h : S.length = t.length
    · rw [decide_eq_true h,beq_iff_eq]; omega
    · rw [decide_eq_false h,beq_eq_false_iff_ne]; omega
  unfold r99
  rw [lp,e]
  cases allN S.length (fun i => r150 (fc S i 0)) <;> rfl
theorem smokeI {t S : List (List Int)} (hl : S.length ≤ 1048576) : r95 t S = (0,allN S.length (fun i => r150 (fc S i 0)) && decide (S.length = t.length)) := by
  have lp : r95l0 (1000 + S.length) ((S.length : Nat) : Int) 0 S = cond (allN S.length (fun i => r150 (fc S i 0))) 1 0 := by
    refine all_loop (n := S.length) (p := fun i => r150 (fc S i 0)) (yes := 1) (no := 0) (G := fun m i => r95l0 m ((S.length : Nat) : Int) i S) ?_ ?_ (by omega)
    · intro m
      show b95l0 (r95l0 m) _ _ _ = _
      unfold b95l0
      rw [dlt_f (Nat.lt_irrefl _)]; rfl
    · intro m i hi
      show b95l0 (r95l0 m) _ _ _ = _
      unfold b95l0
      rw [dlt_t hi,dle0,Int.toNat_natCast,blt_t hi,wrap_succ (by omega)]
      show cond true (cond (!r146 (fc S i 0) 3262119936 1153138688) _ _) _ = _
      rw [← hot_eq]
      cases r150 (fc S i 0) <;> rfl
  unfold r95
  rw [lp,bne_len]
  by_cases h : S.length = t.length
  · rw [decide_eq_true h,decide_eq_true h.symm]
    cases allN S.length (fun i => r150 (fc S i 0)) <;> rfl
  · rw [decide_eq_false h,decide_eq_false (show ¬ t.length = S.length by omega)]
    cases allN S.length (fun i => r150 (fc S i 0)) <;> rfl
theorem time_eq (a : Nat) (h : a < 4294967296) : r153 a = r78 a := by
  unfold r153 r78
  rw [(amount_eq a h).1,(amount_eq a h).2]
theorem warm_ok {t S : List (List Int)} (hc : ChOk t) {o w : Nat} (hw : WOk o w) (hS : S.length = t.length) (hh : ∀ i,i < S.length → r150 (fc S i 0) = true) {a : Nat} (ha : r78 a = true) (ha2 : a < 4294967296) : r103 o w a t S = 2 ∧ r101 o w a t S = 2 := by
  have h6 := hc.n2
  obtain ⟨e1,e2⟩ := code_ok hc hw
  unfold r103 r101
  rw [e1,e2,smokeS (by omega),smokeI (by omega),time_eq a ha2,ha,decide_eq_true hS,show allN S.length (fun i => r150 (fc S i 0)) = true from allN_true.2 hh]
  exact ⟨rfl,rfl⟩
noncomputable def hotS (t F B : List (List Int)) (j : Nat) (p : Nat × Nat) : Nat × Nat := cond (fgt .f32 (fc F (fc B j 0) 0) 0) (fadd .f32 p.1 (fmul .f32 (fc F (fc B j 0) 0) (fc t (fc B j 0) 2)),fadd .f32 p.2 (fc F (fc B j 0) 0)) p
noncomputable def hots (t F : List (List Int)) (i : Nat) : Nat × Nat := foldN (hotS t F (brs t (i : Int))) (brs t (i : Int)).length 0 (0,0)
noncomputable def intoV (t S F : List (List Int)) (o i : Nat) : Nat :=
  cond (flt .f32 (fc F i 0) 0) o (if (brs t (i : Int)).length = 0 then fc S i 0 else cond (fgt .f32 (hots t F i).2 0) (fdiv .f32 (hots t F i).1 (hots t F i).2) (fc t i 2))
noncomputable def intos (t S F : List (List Int)) (o : Nat) : List (List Int) := (List.range t.length).map fun i => [((intoV t S F o i : Nat) : Int)]
theorem intos_len (t S F : List (List Int)) (o : Nat) : (intos t S F o).length = t.length := by unfold intos; simp
theorem intos_get {t S F : List (List Int)} {o i : Nat} (hi : i < t.length) : fc (intos t S F o) i 0 = intoV t S F o i := by
  show Int.toNat (((intos t S F o).getD i []).getD 0 0) = _
  unfold intos
  rw [map_getD hi]; rfl
theorem appR_eq {α : Type} (r : Nat × List α) (s : List α) : cond (Nat.beq r.1 0) (0,r.2) (cond (Nat.beq r.1 1) (0,s) (2,[])) = appR r s := rfl
section
variable {t S F : List (List Int)} (hc : ChOk t) (hS : S.length = t.length) (hF : F.length = t.length)
include hc hF
theorem hotsS {o i : Nat} (x8 : List (List Int)) {fuel : Nat} (hf : (brs t (i : Int)).length < fuel) : r100l1 fuel o (i : Int) 0 0 0 t S F x8 (brs t (i : Int)) = (0,(hots t F i).1,(hots t F i).2) := by
  have hn := brs_len t (i : Int)
  have h6 := hc.n2
  refine fold_at (n := (brs t (i : Int)).length) (step := hotS t F (brs t (i : Int))) (mk := fun p => (0,p.1,p.2)) (G := fun f p k => r100l1 f o (i : Int) p.1 p.2 k t S F x8 (brs t (i : Int))) ?_ ?_ (brs t (i : Int)).length 0 fuel (0,0) (by omega) (by omega)
  · intro f p
    show b100l1 (r100l1 f) _ _ _ _ _ _ _ _ _ _ = _
    unfold b100l1
    rw [dlt_f (Nat.lt_irrefl _)]; rfl
  · intro f j p hj
    show b100l1 (r100l1 f) _ _ _ _ _ _ _ _ _ _ = _
    unfold b100l1 hotS
    obtain ⟨q,hq,e,_⟩ := brs_get hj
    have e' : ((brs t (i : Int)).getD j []).getD 0 0 = (q : Int) := e
    rw [dlt_t hj,dle0,Int.toNat_natCast,blt_t hj,wrap_succ (by omega),fc_of e]
    simp only [e',Int.toNat_natCast]
    rw [dle0,blt_t hq,blt_t (show q < F.length by omega)]
    cases fgt .f32 (fc F q 0) 0 <;> rfl
theorem hotsI {o i : Nat} (x4 : Int) (x10 : List (List Int)) (x11 x12 x13 x14 : Nat) (x15 : Int) {fuel : Nat} (hf : (brs t (i : Int)).length < fuel) : r96l1 fuel o 0 0 x4 (i : Int) (((brs t (i : Int)).length : Nat) : Int) 0 t S F x10 x11 x12 x13 x14 x15 (brs t (i : Int)) = (0,(hots t F i).1,(hots t F i).2) := by
  have hn := brs_len t (i : Int)
  have h6 := hc.n2
  refine fold_at (n := (brs t (i : Int)).length) (step := hotS t F (brs t (i : Int))) (mk := fun p => (0,p.1,p.2)) (G := fun f p k => r96l1 f o p.1 p.2 x4 (i : Int) (((brs t (i : Int)).length : Nat) : Int) k t S F x10 x11 x12 x13 x14 x15 (brs t (i : Int))) ?_ ?_ (brs t (i : Int)).length 0 fuel (0,0) (by omega) (by omega)
  · intro f p
    show b96l1 (r96l1 f) _ _ _ _ _ _ _ _ _ _ _ _ _ _ _ _ _ = _
    unfold b96l1
    rw [dlt_f (Nat.lt_irrefl _)]; rfl
  · intro f j p hj
    show b96l1 (r96l1 f) _ _ _ _ _ _ _ _ _ _ _ _ _ _ _ _ _ = _
    unfold b96l1 hotS
    obtain ⟨q,hq,e,_⟩ := brs_get hj
    have e' : ((brs t (i : Int)).getD j []).getD 0 0 = (q : Int) := e
    rw [dlt_t hj,dle0,Int.toNat_natCast,blt_t hj,wrap_succ (by omega),fc_of e]
    simp only [e',Int.toNat_natCast]
    rw [dle0,blt_t hq,blt_t (show q < F.length by omega)]
    cases fgt .f32 (fc F q 0) 0 <;> rfl
omit hF in
theorem no_brs {i : Nat} (hi : i < t.length) (h : ic t i 4 ≠ -1) : (brs t (i : Int)).length = 0 := by
  refine Nat.eq_zero_of_not_pos fun hp => ?_
  obtain ⟨q,hq,_,e⟩ := brs_get hp
  rcases hc.into q hq with g | ⟨_,_,_,g⟩
  · omega
  · rw [e] at g
    exact h g
include hS
theorem intoS (o : Nat) : r100 o t S F = (0,intos t S F o) := by
  have n1 := hc.n1
  have n2 := hc.n2
  have lp := app_loop (n := t.length) (f := fun i => some [((intoV t S F o i : Nat) : Int)]) (G := fun m s i => r100l0 m o i t S F s) (fuel := 1000 + 0 + F.length + S.length + t.length) ?_ ?_ (by omega)
  · have em : (List.range t.length).filterMap (fun i => some [((intoV t S F o i : Nat) : Int)]) = intos t S F o := congrFun List.filterMap_eq_map' _
    rw [em] at lp
    unfold r100
    rcases lp with e | ⟨_,e'⟩
    · have e2 : r100l0 (1000 + 0 + F.length + S.length + t.length) o 0 t S F [] = _ := e
      rw [e2]; rfl
    · have := congrArg List.length e'
      rw [intos_len] at this
      exact absurd this (by show ¬ t.length = 0; omega)
  · intro m s
    show b100l0 (r100l0 m) _ _ _ _ _ _ = _
    unfold b100l0
    rw [dlt_f (Nat.lt_irrefl _)]; rfl
  · intro m i s hi hs
    show b100l0 (r100l0 m) _ _ _ _ _ _ = _
    have hn := brs_len t (i : Int)
    have hh := hotsS (S := S) hc hF (o := o) (i := i) s (fuel := 1000 + (brs t (i : Int)).length + s.length + F.length + S.length + t.length) (by omega)
    unfold b100l0 intoV
    simp only [take_all,Int.toNat_natCast,brS n2 (i : Int),hh,appR_eq]
    rw [dlt_t hi,dle0,blt_t hi,blt_t (show i < F.length by omega),blt_t (show i < S.length by omega),wrap_succ (by omega),show Nat.ble ((s.length + 1) * 5) 140737488355328 = true from Nat.ble_eq_true_of_le (by omega)]
    show cond (ic t i 4 == -1) _ _ = _
    by_cases h1 : ic t i 4 = -1
    · rw [show (ic t i 4 == -1) = true from by rw [h1]; rfl]
      show cond true (cond true (cond (flt .f32 (fc F i 0) 0) _ _) _) _ = _
      cases flt .f32 (fc F i 0) 0 with
      | true => rfl
      | false =>
        by_cases h0 : (brs t (i : Int)).length = 0
        · rw [if_pos h0,h0]; rfl
        · rw [if_neg h0]
          show cond ((((brs t (i : Int)).length : Nat) : Int) == 0) _ _ = _
          rw [show ((((brs t (i : Int)).length : Nat) : Int) == 0) = false from beq_eq_false_iff_ne.2 (by omega)]
          cases fgt .f32 (hots t F i).2 0 <;> rfl
    · rw [show (ic t i 4 == -1) = false from beq_eq_false_iff_ne.2 h1,if_pos (no_brs hc hi h1)]
      simp only [cond_true,cond_false,Nat.beq,Bool.and_self]
      cases flt .f32 (fc F i 0) 0 <;> rfl
theorem intoI (o : Nat) : r96 o t S F = (0,intos t S F o) := by
  have n1 := hc.n1
  have n2 := hc.n2
  have lp := app_loop (n := t.length) (f := fun i => some [((intoV t S F o i : Nat) : Int)]) (G := fun m s i => r96l0 m o ((t.length : Nat) : Int) i t S F s) (fuel := 1000 + 0 + F.length + S.length + t.length) ?_ ?_ (by omega)
  · have em : (List.range t.length).filterMap (fun i => some [((intoV t S F o i : Nat) : Int)]) = intos t S F o := congrFun List.filterMap_eq_map' _
    rw [em] at lp
    unfold r96
    rcases lp with e | ⟨_,e'⟩
    · have e2 : r96l0 (1000 + 0 + F.length + S.length + t.length) o ((t.length : Nat) : Int) 0 t S F [] = _ := e
      rw [e2]; rfl
    · have := congrArg List.length e'
      rw [intos_len] at this
      exact absurd this (by show ¬ t.length = 0; omega)
  · intro m s
    show b96l0 (r96l0 m) _ _ _ _ _ _ _ = _
    unfold b96l0
    rw [dlt_f (Nat.lt_irrefl _)]; rfl
  · intro m i s hi hs
    show b96l0 (r96l0 m) _ _ _ _ _ _ _ = _
    have hn := brs_len t (i : Int)
    have hh := hotsI (S := S) hc hF (o := o) (i := i) ((t.length : Nat) : Int) s (fc t i 0) (fc t i 1) (fc t i 2) (fc t i 3) (ic t i 4) (fuel := 1000 + (brs t (i : Int)).length + s.length + F.length + S.length + t.length) (by omega)
    unfold b96l0 intoV
    simp only [take_all,Int.toNat_natCast,brI n2 (i : Int),hh,appR_eq]
    rw [dlt_t hi,dle0,blt_t hi,blt_t (show i < F.length by omega),blt_t (show i < S.length by omega),wrap_succ (by omega),show Nat.ble ((s.length + 1) * 5) 140737488355328 = true from Nat.ble_eq_true_of_le (by omega)]
    show cond true (cond true (cond (flt .f32 (fc F i 0) 0) _ _) _) _ = _
    cases flt .f32 (fc F i 0) 0 with
    | true => rfl
    | false =>
      by_cases h0 : (brs t (i : Int)).length = 0
      · rw [if_pos h0,h0]; rfl
      · rw [if_neg h0]
        show cond ((((brs t (i : Int)).length : Nat) : Int) == 0) _ _ = _
        rw [show ((((brs t (i : Int)).length : Nat) : Int) == 0) = false from beq_eq_false_iff_ne.2 (by omega)]
        cases fgt .f32 (hots t F i).2 0 <;> rfl
end
noncomputable def fins (l : List (List Int)) : Bool := allN l.length fun i => decide (fc l i 0 % 2147483648 < 2139095040)
theorem finsS {l : List (List Int)} (hl : l.length ≤ 1048576) : r88 l = (0,fins l) := by
  have lp : r88l0 (1000 + l.length) 0 l = cond (fins l) 1 0 := by
    refine all_loop (n := l.length) (p := fun i => decide (fc l i 0 % 2147483648 < 2139095040)) (yes := 1) (no := 0) (G := fun m i => r88l0 m i l) ?_ ?_ (by omega)
    · intro m
      show b88l0 (r88l0 m) _ _ = _
      unfold b88l0
      rw [dlt_f (Nat.lt_irrefl _)]; rfl
    · intro m i hi
      show b88l0 (r88l0 m) _ _ = _
      unfold b88l0
      rw [dlt_t hi,dle0,Int.toNat_natCast,blt_t hi,wrap_succ (by omega),fin_spec]
      show cond true (cond (!decide (fc l i 0 % 2147483648 < 2139095040)) _ _) _ = _
      cases decide (fc l i 0 % 2147483648 < 2139095040) <;> rfl
  unfold r88
  rw [lp]
  cases fins l <;> rfl
theorem finsI {l : List (List Int)} (hl : l.length ≤ 1048576) : r59b l = (0,fins l) := by
  have lp : r59l0c (1000 + l.length) ((l.length : Nat) : Int) 0 l = cond (fins l) 1 0 := by
    refine all_loop (n := l.length) (p := fun i => decide (fc l i 0 % 2147483648 < 2139095040)) (yes := 1) (no := 0) (G := fun m i => r59l0c m ((l.length : Nat) : Int) i l) ?_ ?_ (by omega)
    · intro m
      show b59l0c (r59l0c m) _ _ _ = _
      unfold b59l0c
      rw [dlt_f (Nat.lt_irrefl _)]; rfl
    · intro m i hi
      show b59l0c (r59l0c m) _ _ _ = _
      unfold b59l0c
      have e56 : r59 (fc l i 0) = cond (r126 (widen (fc l i 0))) false (cond (r127 (widen (fc l i 0)) 0) false true) := by unfold r59 r59l0b; cases r126 (widen (fc l i 0)) <;> cases r127 (widen (fc l i 0)) 0 <;> rfl
      rw [dlt_t hi,dle0,Int.toNat_natCast,blt_t hi,wrap_succ (by omega),← fin_impl,e56]
      show cond true (cond (r126 (widen (fc l i 0))) 0 (cond (r127 (widen (fc l i 0)) 0) 0 _)) _ = _
      cases r126 (widen (fc l i 0)) <;> cases r127 (widen (fc l i 0)) 0 <;> rfl
  unfold r59b
  rw [lp]
  cases fins l <;> rfl
end Go.Proofs.Ytmknfenjnladeaa

namespace Go.Proofs.Ytmknfenjnladeaa
open Go.Ab Ieee

structure Tz (t u : List (List Int)) : Prop where
  len : u.length = t.length
  e0 : ∀ i,ic u i 0 = ic t i 0
  e1 : ∀ i,ic u i 1 = ic t i 1
  e3 : ∀ i,ic u i 3 = ic t i 3
  e4 : ∀ i,ic u i 4 = ic t i 4
  z : ∀ i,Zq (fc t i 2) (fc u i 2)
  l : ∀ i,fc t i 2 < 4294967296
  l' : ∀ i,fc u i 2 < 4294967296
theorem dense_z {a b : Nat} (h : Zq a b) (ha : a < 4294967296) (hb : b < 4294967296) : r170 a = r170 b := by
  rcases h with rfl | ⟨z,z'⟩
  · rfl
  · have c : fadd .f32 0 1133019136 = fadd .f32 2147483648 1133019136 := by decide +kernel
    unfold r170
    have ea : a = 0 ∨ a = 2147483648 := by omega
    have eb : b = 0 ∨ b = 2147483648 := by omega
    rcases ea with rfl | rfl <;> rcases eb with rfl | rfl <;> simp [c]
section
variable {t u : List (List Int)} (h : Tz t u) {o w : Nat}
include h
theorem flo_tz (i p : Nat) : flo u o i p = flo t o i p := by
  have g0 : fc u i 0 = fc t i 0 := congrArg Int.toNat (h.e0 i)
  have g1 : fc u i 1 = fc t i 1 := congrArg Int.toNat (h.e1 i)
  have g3 : fc u i 3 = fc t i 3 := congrArg Int.toNat (h.e3 i)
  have gd := dense_z (h.z i) (h.l i) (h.l' i)
  unfold flo thr r125 r159
  rw [g0,g1,g3,h.e4 i,gd]
  rfl
theorem brs_tz (k : Int) : brs u k = brs t k := by
  unfold brs
  rw [h.len]
  have e : brF u k = brF t k := funext fun i => by unfold brF; rw [h.e4 i]
  rw [e]
theorem sumB_tz (k : Int) (p : Nat) : sumB u o k p = sumB t o k p := by
  unfold sumB
  simp only [brs_tz h,flo_tz h]
theorem atP_tz (k : Nat) : atP u o w k = atP t o w k := by
  have e : atStep u o w k = atStep t o w k := funext fun i => funext fun b => by
    unfold atStep
    rw [sumB_tz h,flo_tz h]
  unfold atP
  rw [brs_tz h,e]
theorem fl_tz (i : Nat) : fl u o w i = fl t o w i := by
  unfold fl
  rw [h.e4 i,flo_tz h,flo_tz h,atP_tz h,atP_tz h]
theorem flows_tz : flows u o w = flows t o w := by
  unfold flows
  rw [h.len]
  exact congrArg (fun f => (List.range t.length).map f) (funext fun i => by rw [fl_tz h])
theorem hots_tz (F : List (List Int)) (i : Nat) : Zq (hots t F i).1 (hots u F i).1 ∧ (hots u F i).2 = (hots t F i).2 := by
  unfold hots
  rw [brs_tz h]
  generalize brs t (i : Int) = B
  have key : ∀ (k j : Nat) (p q : Nat × Nat),Zq p.1 q.1 → q.2 = p.2 → Zq (foldN (hotS t F B) k j p).1 (foldN (hotS u F B) k j q).1 ∧ (foldN (hotS u F B) k j q).2 = (foldN (hotS t F B) k j p).2 := by
    intro k
    induction k with
    | zero => intro j p q h1 h2; exact ⟨h1,h2⟩
    | succ k ih =>
      intro j p q h1 h2
      refine ih (j + 1) _ _ ?_ ?_
      · unfold hotS
        cases fgt .f32 (fc F (fc B j 0) 0) 0 with
        | true => exact add_zq h1 (mul_zq (.rfl' _) (h.z _))
        | false => exact h1
      · unfold hotS
        cases fgt .f32 (fc F (fc B j 0) 0) 0 with
        | true => show fadd .f32 q.2 _ = fadd .f32 p.2 _; rw [h2]
        | false => exact h2
  exact key _ _ _ _ (.rfl' _) rfl
theorem intoV_tz (S F : List (List Int)) (i : Nat) : Zq (intoV t S F o i) (intoV u S F o i) := by
  obtain ⟨h1,h2⟩ := hots_tz h F i
  unfold intoV
  rw [brs_tz h,h2]
  cases flt .f32 (fc F i 0) 0 with
  | true => exact .rfl' _
  | false =>
    simp only [cond_false]
    split
    · exact .rfl' _
    · cases fgt .f32 (hots t F i).2 0 with
      | true => exact div_zq h1
      | false => exact h.z i
end
noncomputable def newS (t F O : List (List Int)) (o a i : Nat) : Nat := r154 (fadd .f32 (fadd .f32 (fc t i 2) (fmul .f32 (fmul .f32 (fmul .f32 1056964608 (r68 (fc F i 0))) (fsub .f32 (fc O i 0) (fc t i 2))) a)) (fmul .f32 (fmul .f32 1031798784 (fsub .f32 o (fc t i 2))) a)) 3262119936 1153138688
noncomputable def newI (t F O : List (List Int)) (o a i : Nat) : Nat := r152 (fadd .f32 (fadd .f32 (fc t i 2) (fmul .f32 (fmul .f32 (fmul .f32 1056964608 (cond (flt .f32 (fc F i 0) 0) (fneg .f32 (fc F i 0)) (fc F i 0))) (fsub .f32 (fc O i 0) (fc t i 2))) a)) (fmul .f32 (fmul .f32 1031798784 (fsub .f32 o (fc t i 2))) a)) 3262119936 1153138688
theorem abs_zq {f : Nat} (h : Fi f) (h2 : f < 4294967296) : Zq (r68 f) (cond (flt .f32 f 0) (fneg .f32 f) f) := by
  have z0 : Fi 0 := by unfold Fi; decide
  unfold r68
  rw [fle_sv h.nn z0.nn h2 (by decide),flt_sv h.nn z0.nn h2 (by decide),c0]
  by_cases h0 : f % 2147483648 = 0
  · have es : sv f = 0 := by
      have := sv_abs f
      rw [h0,show rval F32 0 = 0 from rval_zero F32] at this
      omega
    rw [es]
    refine .inr ⟨?_,h0⟩
    rcases sub_zq (.rfl' 0) (show Zq f 0 from .inr ⟨h0,rfl⟩) with e | ⟨e,_⟩
    · show fsub .f32 0 f % 2147483648 = 0
      rw [e]; decide +kernel
    · exact e
  · have hz : sv f ≠ 0 := fun e => by
      have := sv_abs f
      rw [e] at this
      exact h0 (rval_inj F32 ((show rval F32 (f % 2147483648) = 0 from this.symm).trans (rval_zero F32).symm))
    by_cases hn : sv f < 0
    · rw [decide_eq_true hn,decide_eq_true (show sv f ≤ 0 by omega)]
      exact .inl (neg_sub h h2 h0)
    · rw [decide_eq_false hn,decide_eq_false (show ¬ sv f ≤ 0 by omega)]
      exact .rfl' _
theorem held_zq {x y : Nat} (h : Zq x y) : Zq (r154 x 3262119936 1153138688) (r152 y 3262119936 1153138688) := by
  unfold r154 r152
  rw [flt_zq h (.rfl' _),fgt_zq h (.rfl' _)]
  cases flt .f32 y 3262119936 with
  | true => exact .rfl' _
  | false =>
    cases fgt .f32 y 1153138688 with
    | true => exact .rfl' _
    | false => exact h
theorem new_zq {t u F O O' : List (List Int)} {o a i : Nat} (h : Tz t u) (hO : Zq (fc O i 0) (fc O' i 0)) (hF : Fi (fc F i 0)) (hF2 : fc F i 0 < 4294967296) : Zq (newS t F O o a i) (newI u F O' o a i) :=
  held_zq (add_zq (add_zq (h.z i) (mul_zq (mul_zq (mul_zq (.rfl' _) (abs_zq hF hF2)) (sub_zq hO (h.z i))) (.rfl' _))) (mul_zq (mul_zq (.rfl' _) (sub_zq (.rfl' _) (h.z i))) (.rfl' _)))
theorem newI_lt (t F O : List (List Int)) (o a i : Nat) : newI t F O o a i < 4294967296 := by
  unfold newI r152
  cases flt .f32 _ 3262119936 with
  | true => show 3262119936 < 4294967296; decide
  | false =>
    cases fgt .f32 _ 1153138688 with
    | true => show 1153138688 < 4294967296; decide
    | false => exact fadd_lt _ _
theorem newS_lt (t F O : List (List Int)) (o a i : Nat) : newS t F O o a i < 4294967296 := by
  unfold newS r154
  cases flt .f32 _ 3262119936 with
  | true => show 3262119936 < 4294967296; decide
  | false =>
    cases fgt .f32 _ 1153138688 with
    | true => show 1153138688 < 4294967296; decide
    | false => exact fadd_lt _ _
theorem held_in {x : Nat} (hx : x < 4294967296) : r146 (r152 x 3262119936 1153138688) 3262119936 1153138688 = !isN .f32 (r152 x 3262119936 1153138688) := by
  unfold r152
  cases hn : isN .f32 x with
  | true =>
    rw [flt_nan_l hn,fgt_nan_l hn]
    show r146 x 3262119936 1153138688 = !isN .f32 x
    rw [hn]
    unfold r146
    rw [fgt_nan_l hn,feq_nan_l hn]; rfl
  | false =>
    have hN := nn_isN.1 hn
    have l1 : Nn 3262119936 := by unfold Nn; decide
    have l2 : Nn 1153138688 := by unfold Nn; decide
    rw [flt_sv hN l1 hx (by decide),fgt_sv hN l2 hx (by decide)]
    by_cases g1 : sv x < sv 3262119936
    · rw [decide_eq_true g1]; show r146 3262119936 3262119936 1153138688 = !isN .f32 3262119936; decide +kernel
    · rw [decide_eq_false g1]
      by_cases g2 : sv 1153138688 < sv x
      · rw [decide_eq_true g2]; show r146 1153138688 3262119936 1153138688 = !isN .f32 1153138688; decide +kernel
      · rw [decide_eq_false g2]
        show r146 x 3262119936 1153138688 = !isN .f32 x
        rw [hn]
        unfold r146
        rw [fge_sv hN l1 hx (by decide),fle_sv hN l2 hx (by decide),decide_eq_true (show sv 3262119936 ≤ sv x by omega),decide_eq_true (show sv x ≤ sv 1153138688 by omega)]
        rfl
theorem ct_nat' {d : Nat} (h : d < 4294967296) : CTok (.fl .f32) (d : Int) := by
  exact ⟨Int.natCast_nonneg _,by omega⟩
theorem rows_getD' {t : List (List Int)} {r : List Int} (h : r ∈ t) : ∃ i,i < t.length ∧ t.getD i [] = r := by
  obtain ⟨i,hi,e⟩ := List.mem_iff_getElem.1 h
  exact ⟨i,hi,by rw [List.getD_eq_getElem?_getD,List.getElem?_eq_getElem hi]; exact e⟩
noncomputable def updN (g : Nat → Nat) (k i : Nat) (x : List (List Int)) : List (List Int) := foldN (fun j x => x.modify j (fun r => spl 5 r 2 [((g j : Nat) : Int)])) k i x
theorem updN_len (g : Nat → Nat) : ∀ (k i : Nat) (x : List (List Int)),(updN g k i x).length = x.length
  | 0,_,_ => rfl
  | k + 1,i,x => by
    have := updN_len g k (i + 1) (x.modify i (fun r => spl 5 r 2 [((g i : Nat) : Int)]))
    rw [List.length_modify] at this
    exact this
theorem updN_old (g : Nat → Nat) : ∀ (k i j : Nat) (x : List (List Int)),j < i → (updN g k i x).getD j [] = x.getD j []
  | 0,_,_,_,_ => rfl
  | k + 1,i,j,x,h => by
    have := updN_old g k (i + 1) j (x.modify i (fun r => spl 5 r 2 [((g i : Nat) : Int)])) (by omega)
    refine Eq.trans this ?_
    simp [List.getD,List.getElem?_modify,show i ≠ j by omega]
theorem updN_get (g : Nat → Nat) : ∀ (k i j : Nat) (x : List (List Int)),i ≤ j → j < i + k → j < x.length → (updN g k i x).getD j [] = spl 5 (x.getD j []) 2 [((g j : Nat) : Int)]
  | 0,i,j,x,h1,h2,_ => by omega
  | k + 1,i,j,x,h1,h2,h3 => by
    by_cases h : j = i
    · subst h
      have := updN_old g k (j + 1) j (x.modify j (fun r => spl 5 r 2 [((g j : Nat) : Int)])) (by omega)
      refine Eq.trans this ?_
      simp [List.getD,List.getElem?_modify,h3]
    · have := updN_get g k (i + 1) j (x.modify i (fun r => spl 5 r 2 [((g i : Nat) : Int)])) (by omega) (by omega) (by simpa using h3)
      refine Eq.trans this ?_
      congr 1
      simp [List.getD,List.getElem?_modify,Ne.symm h]
theorem upd_row {g : Nat → Nat} {t : List (List Int)} {j : Nat} (hj : j < t.length) : (updN g t.length 0 t).getD j [] = [ic t j 0,ic t j 1,((g j : Nat) : Int),ic t j 3,ic t j 4] := by
  rw [updN_get g t.length 0 j t (by omega) (by omega) hj]; rfl
theorem upd_out {g : Nat → Nat} {t : List (List Int)} {j : Nat} (hj : ¬ j < t.length) : (updN g t.length 0 t).getD j [] = [] := by
  rw [List.getD_eq_getElem?_getD,List.getElem?_eq_none (by rw [updN_len]; omega)]; rfl
theorem upd_ic {g : Nat → Nat} {t : List (List Int)} (j : Nat) : ic (updN g t.length 0 t) j 0 = ic t j 0 ∧ ic (updN g t.length 0 t) j 1 = ic t j 1 ∧ ic (updN g t.length 0 t) j 2 = (if j < t.length then ((g j : Nat) : Int) else 0) ∧ ic (updN g t.length 0 t) j 3 = ic t j 3 ∧ ic (updN g t.length 0 t) j 4 = ic t j 4 := by
  by_cases h : j < t.length
  · have e := upd_row (g := g) h
    rw [if_pos h]
    show ((updN g t.length 0 t).getD j []).getD 0 0 = _ ∧ ((updN g t.length 0 t).getD j []).getD 1 0 = _ ∧ ((updN g t.length 0 t).getD j []).getD 2 0 = _ ∧ ((updN g t.length 0 t).getD j []).getD 3 0 = _ ∧ ((updN g t.length 0 t).getD j []).getD 4 0 = _
    rw [e]
    exact ⟨rfl,rfl,rfl,rfl,rfl⟩
  · have e := upd_out (g := g) h
    have e' : t.getD j [] = [] := by rw [List.getD_eq_getElem?_getD,List.getElem?_eq_none (by omega)]; rfl
    rw [if_neg h]
    show ((updN g t.length 0 t).getD j []).getD 0 0 = (t.getD j []).getD 0 0 ∧ ((updN g t.length 0 t).getD j []).getD 1 0 = (t.getD j []).getD 1 0 ∧ ((updN g t.length 0 t).getD j []).getD 2 0 = _ ∧ ((updN g t.length 0 t).getD j []).getD 3 0 = (t.getD j []).getD 3 0 ∧ ((updN g t.length 0 t).getD j []).getD 4 0 = (t.getD j []).getD 4 0
    rw [e,e']
    exact ⟨rfl,rfl,rfl,rfl,rfl⟩
theorem upd_tz {t u : List (List Int)} {g g' : Nat → Nat} (h : Tz t u) (hg : ∀ j,j < t.length → Zq (g j) (g' j) ∧ g j < 4294967296 ∧ g' j < 4294967296) : Tz (updN g t.length 0 t) (updN g' u.length 0 u) := by
  have f2 : ∀ j,fc (updN g t.length 0 t) j 2 = if j < t.length then g j else 0 := fun j => by
    have e : fc (updN g t.length 0 t) j 2 = _ := congrArg Int.toNat (upd_ic (g := g) (t := t) j).2.2.1
    rw [e]; split <;> rfl
  have f2' : ∀ j,fc (updN g' u.length 0 u) j 2 = if j < t.length then g' j else 0 := fun j => by
    have e : fc (updN g' u.length 0 u) j 2 = _ := congrArg Int.toNat (upd_ic (g := g') (t := u) j).2.2.1
    rw [e,h.len]; split <;> rfl
  refine ⟨by rw [updN_len,updN_len,h.len],fun i => ?_,fun i => ?_,fun i => ?_,fun i => ?_,fun i => ?_,fun i => ?_,fun i => ?_⟩
  · rw [(upd_ic i).1,(upd_ic i).1,h.e0]
  · rw [(upd_ic i).2.1,(upd_ic i).2.1,h.e1]
  · rw [(upd_ic i).2.2.2.1,(upd_ic i).2.2.2.1,h.e3]
  · rw [(upd_ic i).2.2.2.2,(upd_ic i).2.2.2.2,h.e4]
  · rw [f2,f2']
    split
    · exact (hg i (by assumption)).1
    · exact .rfl' _
  · rw [f2]
    split
    · exact (hg i (by assumption)).2.1
    · decide
  · rw [f2']
    split
    · exact (hg i (by assumption)).2.2
    · decide
theorem flueB_T {H W T D : Nat} (h : FlueOk H W T D) (T' : Nat) (e : Int) : r107 H W T' D e = r146 T' 3262119936 1153138688 := by
  have hH := h.h
  have hW := h.w
  have hD := h.d
  unfold r107
  have a1 : r142 H = true := by rw [(amount_eq H (by omega)).2]; exact decide_eq_true hH
  have a2 : r142 W = true := by rw [(amount_eq W (by omega)).2]; exact decide_eq_true hW
  have b1 : r146 H 1031798784 1106247680 = true := by
    unfold r146
    rw [fge_sv (by unfold Nn; omega) (by unfold Nn; decide) (by omega) (by decide),fle_sv (by unfold Nn; omega) (by unfold Nn; decide) (by omega) (by decide),decide_eq_true h.h1,decide_eq_true h.h2]; rfl
  have b2 : r146 W 1015021568 1082130432 = true := by
    unfold r146
    rw [fge_sv (by unfold Nn; omega) (by unfold Nn; decide) (by omega) (by decide),fle_sv (by unfold Nn; omega) (by unfold Nn; decide) (by omega) (by decide),decide_eq_true h.w1,decide_eq_true h.w2]; rfl
  have d1 : r78 D = true := by
    unfold r78
    rw [(amount_eq D (by omega)).2,decide_eq_true (show D < 2139095040 by omega),fle_sv (by unfold Nn; omega) (by unfold Nn; decide) (by omega) (by decide)]
    refine decide_eq_true ?_
    rw [sv_pos (by omega),sv_pos (by decide)]
    exact Int.ofNat_le.2 (rv_le hD)
  rw [a1,a2,b1,b2,d1]
  cases r146 T' 3262119936 1153138688 <;> rfl
noncomputable def okN (g : Nat → Nat) (n : Nat) : Bool := allN n fun i => !isN .f32 (g i)
theorem upd_ok {t : List (List Int)} (hc : ChOk t) {g : Nat → Nat} (hlt : ∀ j,j < t.length → g j < 4294967296) (hin : ∀ j,j < t.length → r146 (g j) 3262119936 1153138688 = !isN .f32 (g j)) : r45 (updN g t.length 0 t) = (0,okN g t.length) ∧ (okN g t.length = true → ChOk (updN g t.length 0 t)) := by
  have n1 := hc.n1
  have n2 := hc.n2
  have hr : RowsOk S5 (updN g t.length 0 t) := by
    intro r hr
    obtain ⟨i,hi,e⟩ := rows_getD' hr
    rw [updN_len] at hi
    rw [upd_row hi] at e
    have ho := hc.rows.get hi
    rw [← e]
    exact ⟨ho.get (j := 0) rfl,ho.get (j := 1) rfl,ct_nat' (hlt i hi),ho.get (j := 3) rfl,ho.get (j := 4) rfl,trivial⟩
  have hp : allN t.length (pC (updN g t.length 0 t)) = okN g t.length := by
    refine allN_congr fun i hi => ?_
    obtain ⟨e0,e1,e2,e3,e4⟩ := upd_ic (g := g) (t := t) i
    rw [if_pos hi] at e2
    have g0 : fc (updN g t.length 0 t) i 0 = fc t i 0 := congrArg Int.toNat e0
    have g1 : fc (updN g t.length 0 t) i 1 = fc t i 1 := congrArg Int.toNat e1
    have g2 : fc (updN g t.length 0 t) i 2 = g i := congrArg Int.toNat e2
    have g3 : fc (updN g t.length 0 t) i 3 = fc t i 3 := congrArg Int.toNat e3
    have hib : intoB (updN g t.length 0 t) i = true := by
      unfold intoB
      rw [e4,updN_len,(upd_ic (g := g) (t := t) (ic t i 4).toNat).2.2.2.2]
      rcases hc.into i hi with h | ⟨h1,h2,h3,h4⟩
      · rw [decide_eq_true h]; rfl
      · rw [decide_eq_true (show 0 ≤ ic t i 4 ∧ ic t i 4 < t.length ∧ ic t i 4 ≠ i from ⟨h1,h2,h3⟩),decide_eq_true h4,Bool.true_and,Bool.or_true]
    unfold pC flueB
    rw [hib,g0,g1,g2,g3,flueB_T (hc.flue i hi),hin i hi,Bool.and_true]
  obtain ⟨b,_,v2,v3⟩ := valid_both hr (by rw [updN_len]; omega)
  have e50 : r45 (updN g t.length 0 t) = (0,okN g t.length) := by
    have lp := loopI (t := updN g t.length 0 t) (fuel := 1000 + (updN g t.length 0 t).length) (by rw [updN_len]; omega) (by omega)
    rw [updN_len,hp] at lp
    unfold r45
    rw [updN_len,lp,decide_eq_false (show ¬ ((t.length : Nat) : Int) < 1 by omega),decide_eq_false (show ¬ ((t.length : Nat) : Int) > 6 by omega)]
    cases okN g t.length <;> rfl
  refine ⟨e50,fun h => v3 ?_⟩
  rw [v2] at e50
  have := congrArg Prod.snd e50
  exact this.trans h
end Go.Proofs.Ytmknfenjnladeaa

namespace Go.Proofs.Ytmknfenjnladeaa
open Go.Ab Ieee

theorem upd_self {x : List (List Int)} {i v : Nat} (hi : i < x.length) : Int.toNat (((x.modify i (fun r => spl 5 r 2 [((v : Nat) : Int)])).getD i []).getD 2 0) = v := by
  have e : (x.modify i (fun r => spl 5 r 2 [((v : Nat) : Int)])).getD i [] = spl 5 (x.getD i []) 2 [((v : Nat) : Int)] := by simp [List.getD,List.getElem?_modify,hi]
  rw [e]; rfl
section
variable {t F O : List (List Int)} (n6 : t.length ≤ 6) (hF : F.length = t.length) (hO : O.length = t.length) (o a : Nat)
include n6 hF hO
theorem warmLS : ∀ (k i fuel : Nat) (x : List (List Int)),i + k = t.length → k < fuel → x.length = t.length →
    ((List.range' i k).all (fun i => !isN .f32 (newS t F O o a i)) = true ∧ r104l0 fuel o a (i : Int) t F O x = (1,[],updN (newS t F O o a) k i x)) ∨
    ((List.range' i k).all (fun i => !isN .f32 (newS t F O o a i)) = false ∧ ∃ tb,r104l0 fuel o a (i : Int) t F O x = (0,tb,[])) := by
  intro k
  induction k with
  | zero =>
    intro i fuel x h hf hx
    obtain ⟨m,rfl⟩ : ∃ m,fuel = m + 1 := ⟨fuel - 1,by omega⟩
    refine .inl ⟨rfl,?_⟩
    show b104l0 (r104l0 m) _ _ _ _ _ _ _ = _
    unfold b104l0
    rw [dlt_f (by omega)]; rfl
  | succ k ih =>
    intro i fuel x h hf hx
    obtain ⟨m,rfl⟩ : ∃ m,fuel = m + 1 := ⟨fuel - 1,by omega⟩
    have hi : i < t.length := by omega
    have hs := upd_self (x := x) (i := i) (v := newS t F O o a i) (by omega)
    have hih := ih (i + 1) m (x.modify i (fun r => spl 5 r 2 [((newS t F O o a i : Nat) : Int)])) (by omega) (by omega) (by rw [List.length_modify]; exact hx)
    have step : r104l0 (m + 1) o a (i : Int) t F O x = cond (isN .f32 (newS t F O o a i)) (0,x.modify i (fun r => spl 5 r 2 [((newS t F O o a i : Nat) : Int)]),[]) (r104l0 m o a ((i + 1 : Nat) : Int) t F O (x.modify i (fun r => spl 5 r 2 [((newS t F O o a i : Nat) : Int)]))) := by
      show b104l0 (r104l0 m) _ _ _ _ _ _ _ = _
      unfold b104l0
      simp only [Int.toNat_natCast,List.length_modify]
      rw [dlt_t (show i < x.length by omega),dle0,blt_t hi,blt_t (show i < F.length by omega),blt_t (show i < O.length by omega),blt_t (show i < x.length by omega),wrap_succ (by omega)]
      show cond true (cond true (cond true (cond true (cond true (cond (!feq .f32 (Int.toNat (((x.modify i (fun r => spl 5 r 2 [((newS t F O o a i : Nat) : Int)])).getD i []).getD 2 0)) (Int.toNat (((x.modify i (fun r => spl 5 r 2 [((newS t F O o a i : Nat) : Int)])).getD i []).getD 2 0))) _ _) _) _) _) _) _ = _
      rw [hs,feq_self,Bool.not_not]
      rfl
    rw [List.range'_succ,List.all_cons]
    cases hn : isN .f32 (newS t F O o a i) with
    | true =>
      refine .inr ⟨rfl,x.modify i (fun r => spl 5 r 2 [((newS t F O o a i : Nat) : Int)]),?_⟩
      rw [step,hn]; rfl
    | false =>
      rw [step,hn]
      exact hih
theorem warmLI : ∀ (k i fuel : Nat) (x : List (List Int)),i + k = t.length → k < fuel → x.length = t.length → r102l0 fuel o a ((t.length : Nat) : Int) (i : Int) t F O x = (0,updN (newI t F O o a) k i x) := by
  intro k
  induction k with
  | zero =>
    intro i fuel x h hf hx
    obtain ⟨m,rfl⟩ : ∃ m,fuel = m + 1 := ⟨fuel - 1,by omega⟩
    show b102l0 (r102l0 m) _ _ _ _ _ _ _ _ = _
    unfold b102l0
    rw [dlt_f (by omega)]; rfl
  | succ k ih =>
    intro i fuel x h hf hx
    obtain ⟨m,rfl⟩ : ∃ m,fuel = m + 1 := ⟨fuel - 1,by omega⟩
    have hi : i < t.length := by omega
    have hih := ih (i + 1) m (x.modify i (fun r => spl 5 r 2 [((newI t F O o a i : Nat) : Int)])) (by omega) (by omega) (by rw [List.length_modify]; exact hx)
    refine Eq.trans ?_ hih
    show b102l0 (r102l0 m) _ _ _ _ _ _ _ _ = _
    unfold b102l0 newI
    simp only [Int.toNat_natCast]
    rw [dlt_t hi,dle0,blt_t hi,blt_t (show i < F.length by omega),blt_t (show i < O.length by omega),blt_t (show i < x.length by omega),wrap_succ (by omega)]
    simp only [cond_true,Bool.and_self]
    cases flt .f32 (fc F i 0) 0 <;> rfl
end
section
variable {t S : List (List Int)} {o w : Nat} (hc : ChOk t) (hw : WOk o w) (hS : S.length = t.length) (a : Nat)
include hc hw hS
theorem warmS : r104 o w a t S = (0,[],[]) ∧ (fins (intos t S (flows t o w) o) = false ∨ okN (newS t (flows t o w) (intos t S (flows t o w) o) o a) t.length = false) ∨
    (r104 o w a t S = (1,updN (newS t (flows t o w) (intos t S (flows t o w) o) o a) t.length 0 t,flows t o w) ∧ fins (intos t S (flows t o w) o) = true ∧ okN (newS t (flows t o w) (intos t S (flows t o w) o) o a) t.length = true) := by
  have n1 := hc.n1
  have n2 := hc.n2
  have hFl := flows_len t o w
  have hOl := intos_len t S (flows t o w) o
  have e1 := flowsS hc hw
  have e2 := intoS hc hS hFl o
  have e3 := finsS (l := intos t S (flows t o w) o) (by omega)
  have hb : Nat.ble ((0 + t.length) * 25) 140737488355328 = true := Nat.ble_eq_true_of_le (by omega)
  have lp := warmLS n2 hFl hOl o a t.length 0 (1000 + t.length + (intos t S (flows t o w) o).length + (flows t o w).length + t.length) t (by omega) (by omega) rfl
  rw [show (List.range' 0 t.length).all (fun i => !isN .f32 (newS t (flows t o w) (intos t S (flows t o w) o) o a i)) = okN (newS t (flows t o w) (intos t S (flows t o w) o) o a) t.length by unfold okN allN; rw [List.range_eq_range']] at lp
  unfold r104
  simp only [e1,e2,e3,List.nil_append,hb]
  cases fins (intos t S (flows t o w) o) with
  | false => exact .inl ⟨rfl,.inl rfl⟩
  | true =>
    rcases lp with ⟨k1,k2⟩ | ⟨k1,tb,k2⟩
    · have k2' : r104l0 (1000 + t.length + (intos t S (flows t o w) o).length + (flows t o w).length + t.length) o a 0 t (flows t o w) (intos t S (flows t o w) o) t = _ := k2
      rw [k2']
      exact .inr ⟨rfl,rfl,k1⟩
    · have k2' : r104l0 (1000 + t.length + (intos t S (flows t o w) o).length + (flows t o w).length + t.length) o a 0 t (flows t o w) (intos t S (flows t o w) o) t = _ := k2
      rw [k2']
      exact .inl ⟨rfl,.inr k1⟩
theorem warmI : (r102 o w a t S = (0,false,[],[]) ∧ fins (intos t S (flows t o w) o) = false) ∨
    (r102 o w a t S = (1,okN (newI t (flows t o w) (intos t S (flows t o w) o) o a) t.length,updN (newI t (flows t o w) (intos t S (flows t o w) o) o a) t.length 0 t,flows t o w) ∧ fins (intos t S (flows t o w) o) = true) := by
  have n1 := hc.n1
  have n2 := hc.n2
  have hFl := flows_len t o w
  have hOl := intos_len t S (flows t o w) o
  have e1 := flowsI hc hw
  have e2 := intoI hc hS hFl o
  have e3 := finsI (l := intos t S (flows t o w) o) (by omega)
  have e4 := fin_all (l := flows t o w) (by omega) (fun i hi => by rw [hFl] at hi; rw [flows_get hi]; exact (fl_ok hc hw hi).1)
  have e71 : r151 t = (0,t) := by
    unfold r151
    rw [show Nat.ble ((0 + t.length) * 25) 140737488355328 = true from Nat.ble_eq_true_of_le (by omega)]
    rfl
  have lp := warmLI n2 hFl hOl o a t.length 0 (1000 + t.length + (intos t S (flows t o w) o).length + (flows t o w).length + t.length) t (by omega) (by omega) rfl
  have lp' : r102l0 (1000 + t.length + (intos t S (flows t o w) o).length + (flows t o w).length + t.length) o a ((t.length : Nat) : Int) 0 t (flows t o w) (intos t S (flows t o w) o) t = _ := lp
  have up := (upd_ok hc (g := newI t (flows t o w) (intos t S (flows t o w) o) o a) (fun j _ => newI_lt _ _ _ _ _ _) (fun j _ => held_in (fadd_lt _ _))).1
  unfold r102
  simp only [e1,e2,e3,e4,e71,lp',up]
  cases fins (intos t S (flows t o w) o) with
  | false => exact .inl ⟨rfl,rfl⟩
  | true => exact .inr ⟨rfl,rfl⟩
end
theorem tz_refl {t : List (List Int)} (hc : ChOk t) : Tz t t := by
  have l : ∀ i,fc t i 2 < 4294967296 := fun i => by
    by_cases h : i < t.length
    · exact fc_lt hc.rows h rfl
    · have e' : t.getD i [] = [] := by rw [List.getD_eq_getElem?_getD,List.getElem?_eq_none (by omega)]; rfl
      show Int.toNat ((t.getD i []).getD 2 0) < _
      rw [e']; decide
  exact ⟨rfl,fun _ => rfl,fun _ => rfl,fun _ => rfl,fun _ => rfl,fun _ => .rfl' _,l,l⟩
end Go.Proofs.Ytmknfenjnladeaa

namespace Go.Proofs.Ytmknfenjnladeaa
open Go.Ab Ieee

abbrev SU : List CT := [.int .u8]
theorem byte_ok {c : List (List Int)} (h : RowsOk SU c) {i : Nat} (hi : i < c.length) : 0 ≤ ic c i 0 ∧ ic c i 0 ≤ 255 := by
  have := (h.get hi).get (j := 0) (t := .int .u8) rfl
  exact this
theorem and255 (x : Int) : 0 ≤ bits .and .u64 x 255 ∧ bits .and .u64 x 255 ≤ 255 := by
  have e : bits .and .u64 x 255 = IntKind.u64.wrap (((BitVec.ofInt 64 x &&& BitVec.ofInt 64 255).toNat : Nat) : Int) := rfl
  have h : (BitVec.ofInt 64 x &&& BitVec.ofInt 64 255).toNat ≤ 255 := by
    rw [BitVec.toNat_and]
    exact Nat.and_le_right
  generalize (BitVec.ofInt 64 x &&& BitVec.ofInt 64 255).toNat = n at *
  have w : IntKind.u64.wrap (n : Int) = (n : Int) := by
    have e2 : IntKind.u64.wrap (n : Int) = (n : Int) % 18446744073709551616 := by
      unfold IntKind.wrap
      rw [show IntKind.u64.bits = 64 from rfl,show IntKind.u64.signed = false from rfl]
      rfl
    rw [e2]; omega
  rw [e,w]
  omega
theorem next_ok {c : List (List Int)} (h : RowsOk SU c) (hl : c.length ≤ 1048576) {a : Nat} (ha : a ≤ 1048576) (s : Int) : ∃ v s',r123 (a : Int) s c = (0,v,((a + 1 : Nat) : Int),s') ∧ 0 ≤ v ∧ v ≤ 255 := by
  unfold r123
  rw [wrap_succ (by omega),Int.toNat_natCast]
  by_cases h1 : a < c.length
  · have hb := byte_ok h h1
    have wb : IntKind.i64.wrap (ic c a 0) = ic c a 0 := wrap_i64 (by omega) (by omega)
    rw [dlt_t h1,dle0,blt_t h1,decide_eq_true (show ((a + 1 : Nat) : Int) ≤ (c.length : Int) by omega)]
    exact ⟨_,_,rfl,by show 0 ≤ IntKind.i64.wrap (ic c a 0); rw [wb]; exact hb.1,by show IntKind.i64.wrap (ic c a 0) ≤ 255; rw [wb]; exact hb.2⟩
  · rw [dlt_f h1,decide_eq_false (show ¬ ((a + 1 : Nat) : Int) ≤ (c.length : Int) by omega)]
    refine ⟨_,_,rfl,?_,?_⟩
    · have g := and255 (Int.fdiv (IntKind.u64.wrap ((IntKind.u64.wrap ((IntKind.u64.wrap (s * 6364136223846793005)) + 0)) + 1442695040888963407)) (2 ^ (min (40 : Int).toNat (IntKind.bits .u64))))
      rw [wrap_i64 (by omega) (by omega)]; exact g.1
    · have g := and255 (Int.fdiv (IntKind.u64.wrap ((IntKind.u64.wrap ((IntKind.u64.wrap (s * 6364136223846793005)) + 0)) + 1442695040888963407)) (2 ^ (min (40 : Int).toNat (IntKind.bits .u64))))
      rw [wrap_i64 (by omega) (by omega)]; exact g.2
theorem pick_ok {c : List (List Int)} (h : RowsOk SU c) (hl : c.length ≤ 1048576) {n a : Nat} (ha : a + 2 ≤ 1048576) (hn : n ≤ 1000) (s : Int) : ∃ (p b : Nat) (s' : Int),r56 (n : Int) (a : Int) s c = (0,(p : Int),(b : Int),s') ∧ (p < n ∨ p = 0) ∧ a ≤ b ∧ b ≤ a + 2 := by
  unfold r56
  by_cases h1 : n ≤ 1
  · rw [decide_eq_true (show (n : Int) ≤ 1 by omega)]
    exact ⟨0,a,s,rfl,.inr rfl,Nat.le_refl _,by omega⟩
  · rw [decide_eq_false (show ¬ (n : Int) ≤ 1 by omega)]
    obtain ⟨v,s1,e1,v0,v1⟩ := next_ok h hl (a := a) (by omega) s
    obtain ⟨w,s2,e2,w0,w1⟩ := next_ok h hl (a := a + 1) (by omega) s1
    simp only [e1,e2]
    rw [decide_eq_false (show ¬ (n : Int) = 0 by omega)]
    by_cases h2 : n > 200
    · rw [decide_eq_true (show (n : Int) > 200 by omega),wrap_i64 (show -9223372036854775808 ≤ v * 256 by omega) (by omega),wrap_i64 (by omega) (by omega),Int.tmod_eq_emod_of_nonneg (by omega)]
      have g0 := Int.emod_nonneg (v * 256 + w) (show (n : Int) ≠ 0 by omega)
      have g1 := Int.emod_lt_of_pos (v * 256 + w) (show 0 < (n : Int) by omega)
      refine ⟨((v * 256 + w) % n).toNat,a + 1 + 1,s2,?_,by omega,by omega,by omega⟩
      rw [Int.toNat_of_nonneg g0]; rfl
    · rw [decide_eq_false (show ¬ (n : Int) > 200 by omega),Int.tmod_eq_emod_of_nonneg v0]
      have g0 := Int.emod_nonneg v (show (n : Int) ≠ 0 by omega)
      have g1 := Int.emod_lt_of_pos v (show 0 < (n : Int) by omega)
      refine ⟨(v % n).toNat,a + 1,s1,?_,by omega,by omega,by omega⟩
      rw [Int.toNat_of_nonneg g0]; rfl
noncomputable def hD (i : Nat) : Nat := fdiv .f32 (ofInt .f32 ((1 + i : Nat) : Int)) 1082130432
noncomputable def wD (i : Nat) : Nat := fdiv .f32 (ofInt .f32 ((1 + i : Nat) : Int)) 1098907648
noncomputable def tD (i : Nat) : Nat := ofInt .f32 ((i : Int) - 10)
noncomputable def dD (i : Nat) : Nat := fdiv .f32 (ofInt .f32 ((i : Nat) : Int)) 1090519040
theorem hD_all : ∀ i : Fin 32,fdiv .f32 (ofInt .f32 ((1 + i.val : Nat) : Int)) 1082130432 < 2139095040 ∧ sv 1031798784 ≤ sv (fdiv .f32 (ofInt .f32 ((1 + i.val : Nat) : Int)) 1082130432) ∧ sv (fdiv .f32 (ofInt .f32 ((1 + i.val : Nat) : Int)) 1082130432) ≤ sv 1090519040 := by decide +kernel
theorem wD_all : ∀ i : Fin 16,fdiv .f32 (ofInt .f32 ((1 + i.val : Nat) : Int)) 1098907648 < 2139095040 ∧ sv 1015021568 ≤ sv (fdiv .f32 (ofInt .f32 ((1 + i.val : Nat) : Int)) 1098907648) ∧ sv (fdiv .f32 (ofInt .f32 ((1 + i.val : Nat) : Int)) 1098907648) ≤ sv 1065353216 := by decide +kernel
theorem tD_all : ∀ i : Fin 300,ofInt .f32 ((i.val : Int) - 10) % 2147483648 < 2139095040 ∧ ofInt .f32 ((i.val : Int) - 10) < 4294967296 ∧ sv (ofInt .f32 ((i.val : Int) - 10)) = ((i.val : Int) - 10) * 2 ^ 149 := by decide +kernel
theorem dD_all : ∀ i : Fin 9,fdiv .f32 (ofInt .f32 ((i.val : Nat) : Int)) 1090519040 ≤ 1065353216 := by decide +kernel
theorem flue_drawn {i j k l : Nat} (hi : i < 32) (hj : j < 16) (hk : k < 300) (hl : l < 9) : FlueOk (hD i) (wD j) (tD k) (dD l) := by
  have a := hD_all ⟨i,hi⟩
  have b := wD_all ⟨j,hj⟩
  have c := tD_all ⟨k,hk⟩
  have d := dD_all ⟨l,hl⟩
  have e1 := c2
  have e2 := c30
  have e3 := c4
  have e4 := c1
  have e5 := c8
  have e6 := cm60
  have e7 := c1500
  refine ⟨a.1,b.1,d,a.2.1,?_,b.2.1,?_,?_,c.2.1,?_,?_⟩
  · have := a.2.2
    show sv (fdiv .f32 (ofInt .f32 ((1 + i : Nat) : Int)) 1082130432) ≤ _
    simp only at this
    omega
  · have := b.2.2
    show sv (fdiv .f32 (ofInt .f32 ((1 + j : Nat) : Int)) 1098907648) ≤ _
    simp only at this
    omega
  · unfold Nn tD; exact Nat.le_of_lt c.1
  · have := c.2.2
    show _ ≤ sv (ofInt .f32 ((k : Int) - 10))
    simp only at this
    omega
  · have := c.2.2
    show sv (ofInt .f32 ((k : Int) - 10)) ≤ _
    simp only at this
    omega
theorem draw_flue {c : List (List Int)} (h : RowsOk SU c) (hl : c.length ≤ 1048576) {a : Nat} (ha : a + 20 ≤ 1048576) (s : Int) : ∃ i j k l b : Nat,∃ s' : Int,r121 (a : Int) s c = (0,hD i,wD j,tD k,dD l,-1,(b : Int),s') ∧ i < 32 ∧ j < 16 ∧ k < 300 ∧ l < 9 ∧ a ≤ b ∧ b ≤ a + 8 := by
  obtain ⟨p1,a1,s1,e1,h1,l1,u1⟩ := pick_ok h hl (n := 32) (a := a) (by omega) (by decide) s
  obtain ⟨p2,a2,s2,e2,h2,l2,u2⟩ := pick_ok h hl (n := 16) (a := a1) (by omega) (by decide) s1
  obtain ⟨p3,a3,s3,e3,h3,l3,u3⟩ := pick_ok h hl (n := 300) (a := a2) (by omega) (by decide) s2
  obtain ⟨p4,a4,s4,e4,h4,l4,u4⟩ := pick_ok h hl (n := 9) (a := a3) (by omega) (by decide) s3
  have e1' : r56 32 (a : Int) s c = _ := e1
  have e2' : r56 16 (a1 : Int) s1 c = _ := e2
  have e3' : r56 300 (a2 : Int) s2 c = _ := e3
  have e4' : r56 9 (a3 : Int) s3 c = _ := e4
  refine ⟨p1,p2,p3,p4,a4,s4,?_,by omega,by omega,by omega,by omega,by omega,by omega⟩
  unfold r121
  simp only [e1',e2',e3',e4']
  rw [wrap_i64 (show -9223372036854775808 ≤ 1 + (p1 : Int) by omega) (by omega),wrap_i64 (show -9223372036854775808 ≤ 1 + (p2 : Int) by omega) (by omega),wrap_i64 (show -9223372036854775808 ≤ (p3 : Int) - 10 by omega) (by omega)]
  unfold hD wD tD dD
  rw [Int.natCast_add,Int.natCast_add]
  rfl
end Go.Proofs.Ytmknfenjnladeaa

namespace Go.Proofs.Ytmknfenjnladeaa
open Go.Ab Ieee

theorem rows_getD {t : List (List Int)} {r : List Int} (h : r ∈ t) : ∃ i,i < t.length ∧ t.getD i [] = r := by
  obtain ⟨i,hi,e⟩ := List.mem_iff_getElem.1 h
  exact ⟨i,hi,by rw [List.getD_eq_getElem?_getD,List.getElem?_eq_getElem hi]; exact e⟩
theorem ct_nat {d : Nat} (h : d < 4294967296) : CTok (.fl .f32) (d : Int) := ⟨Int.natCast_nonneg _,by omega⟩
def DrR (t : List (List Int)) (tr : Int) (q : Nat) : Prop := ∃ i j k l : Nat,∃ e : Int,i < 32 ∧ j < 16 ∧ k < 300 ∧ l < 9 ∧ t.getD q [] = [(hD i : Int),(wD j : Int),(tD k : Int),(dD l : Int),e] ∧ (e = -1 ∨ (e = tr ∧ (q : Int) ≠ tr))
structure DrOk (t : List (List Int)) : Prop where
  n1 : 1 ≤ t.length
  n2 : t.length ≤ 5
  ex : ∃ tr : Nat,tr < t.length ∧ ∀ q,q < t.length → DrR t (tr : Int) q
theorem draw_rows {c : List (List Int)} (h : RowsOk SU c) (hl : c.length ≤ 4096) : ∀ (k a : Nat) (s : Int) (x : List (List Int)) (fuel : Nat),k < fuel → a + 8 * k ≤ 100000 → x.length + k ≤ 6 → (∀ q,q < x.length → DrR x (-1) q) →
    (k = 0 ∧ r54l0 fuel (k : Int) (a : Int) s x c = (1,0,0,[])) ∨ ∃ b s' y,r54l0 fuel (k : Int) (a : Int) s x c = (0,((b : Nat) : Int),s',y) ∧ a ≤ b ∧ b ≤ a + 8 * k ∧ y.length = x.length + k ∧ ∀ q,q < y.length → DrR y (-1) q := by
  intro k
  induction k with
  | zero =>
    intro a s x fuel hf ha hx hd
    obtain ⟨m,rfl⟩ : ∃ m,fuel = m + 1 := ⟨fuel - 1,by omega⟩
    refine .inl ⟨rfl,?_⟩
    show b54l0 (r54l0 m) _ _ _ _ _ = _
    unfold b54l0
    rfl
  | succ k ih =>
    intro a s x fuel hf ha hx hd
    obtain ⟨m,rfl⟩ : ∃ m,fuel = m + 1 := ⟨fuel - 1,by omega⟩
    obtain ⟨i,j,p,l,b,s1,e1,hi,hj,hp,hlt,l1,u1⟩ := draw_flue h (by omega) (a := a) (by omega) s
    have hd' : ∀ q,q < (x ++ [[(hD i : Int),(wD j : Int),(tD p : Int),(dD l : Int),-1]]).length → DrR (x ++ [[(hD i : Int),(wD j : Int),(tD p : Int),(dD l : Int),-1]]) (-1) q := by
      intro q hq
      rw [List.length_append] at hq
      by_cases g : q < x.length
      · obtain ⟨i',j',k',l',e',g1,g2,g3,g4,g5,g6⟩ := hd q g
        refine ⟨i',j',k',l',e',g1,g2,g3,g4,?_,g6⟩
        rw [← g5]; simp [List.getD,List.getElem?_append_left g]
      · have hq' : q = x.length := by simp at hq; omega
        subst hq'
        exact ⟨i,j,p,l,-1,hi,hj,hp,hlt,by simp [List.getD],.inl rfl⟩
    have hih := ih b s1 (x ++ [[(hD i : Int),(wD j : Int),(tD p : Int),(dD l : Int),-1]]) m (by omega) (by omega) (by simp; omega) hd'
    refine .inr ?_
    show ∃ b s' y,b54l0 (r54l0 m) _ _ _ _ _ = _ ∧ _
    unfold b54l0
    simp only [e1,take_all]
    rw [decide_eq_true (show ((k + 1 : Nat) : Int) > 0 by omega),show Nat.ble ((x.length + 1) * 25) 140737488355328 = true from Nat.ble_eq_true_of_le (by omega),show IntKind.i64.wrap (((k + 1 : Nat) : Int) - 1) = (k : Int) from by rw [wrap_i64 (by omega) (by omega)]; omega]
    rcases hih with ⟨k0,e⟩ | ⟨b',s',y,e,l2,u2,hy,hdy⟩
    · rw [e]
      subst k0
      exact ⟨b,s1,_,rfl,l1,by omega,by simp,hd'⟩
    · rw [e]
      exact ⟨b',s',y,rfl,by omega,by omega,by rw [hy]; simp; omega,hdy⟩
theorem into_set {t : List (List Int)} {q : Nat} (hq : q < t.length) (v : Int) (j : Nat) : (t.modify q (fun r => spl 5 r 4 [v])).getD j [] = if j = q then spl 5 (t.getD q []) 4 [v] else t.getD j [] := by
  by_cases h : j = q
  · subst h; simp [List.getD,List.getElem?_modify,hq]
  · simp [List.getD,List.getElem?_modify,h,Ne.symm h]
theorem draw_into {c : List (List Int)} (h : RowsOk SU c) (hl : c.length ≤ 4096) (n tr : Nat) (hn : n ≤ 5) : ∀ (k i a : Nat) (s : Int) (x : List (List Int)) (fuel : Nat),i + k = n → k < fuel → a + 2 * k ≤ 100000 → x.length = n → (∀ q,q < n → DrR x (tr : Int) q) →
    ∃ b s' y,r54l1 fuel (n : Int) (tr : Int) (i : Int) (a : Int) s x c = (0,((b : Nat) : Int),s',y) ∧ y.length = n ∧ ∀ q,q < n → DrR y (tr : Int) q := by
  intro k
  induction k with
  | zero =>
    intro i a s x fuel hik hf ha hx hd
    obtain ⟨m,rfl⟩ : ∃ m,fuel = m + 1 := ⟨fuel - 1,by omega⟩
    refine ⟨a,s,x,?_,hx,hd⟩
    show b54l1 (r54l1 m) _ _ _ _ _ _ _ = _
    unfold b54l1
    rw [dlt_f (by omega)]; rfl
  | succ k ih =>
    intro i a s x fuel hik hf ha hx hd
    obtain ⟨m,rfl⟩ : ∃ m,fuel = m + 1 := ⟨fuel - 1,by omega⟩
    show ∃ b s' y,b54l1 (r54l1 m) _ _ _ _ _ _ _ = _ ∧ _
    unfold b54l1
    rw [dlt_t (show i < n by omega),wrap_succ (by omega)]
    by_cases hit : i = tr
    · subst hit
      rw [bne_self_eq_false]
      exact ih (i + 1) a s x m (by omega) (by omega) (by omega) hx hd
    · rw [show (((i : Nat) : Int) != (tr : Int)) = true from bne_iff_ne.2 (by omega)]
      obtain ⟨p,b,s1,e1,_,l1,u1⟩ := pick_ok h (by omega) (n := 3) (a := a) (by omega) (by decide) s
      have e1' : r56 3 (a : Int) s c = _ := e1
      have e89 : r122 (a : Int) s c = (0,((p : Int) == 0),(b : Int),s1) := by unfold r122; rw [e1']; rfl
      simp only [e89,Int.toNat_natCast]
      rw [dle0,blt_t (show i < x.length by omega)]
      simp only [cond_true,cond_false,Nat.beq,Bool.and_self]
      cases ((p : Int) == 0) with
      | true => exact ih (i + 1) b s1 x m (by omega) (by omega) (by omega) hx hd
      | false =>
        refine ih (i + 1) b s1 (x.modify i (fun r => spl 5 r 4 [(tr : Int)])) m (by omega) (by omega) (by omega) (by rw [List.length_modify]; exact hx) (fun q hq => ?_)
        obtain ⟨i',j',k',l',e',g1,g2,g3,g4,g5,g6⟩ := hd q hq
        by_cases hqi : q = i
        · subst hqi
          refine ⟨i',j',k',l',tr,g1,g2,g3,g4,?_,.inr ⟨rfl,by omega⟩⟩
          rw [into_set (by omega),if_pos rfl,g5]; rfl
        · refine ⟨i',j',k',l',e',g1,g2,g3,g4,?_,g6⟩
          rw [into_set (by omega),if_neg hqi]; exact g5
theorem draw_ok {c : List (List Int)} (h : RowsOk SU c) (hl : c.length ≤ 4096) : ∃ t,r9 c = (0,t) ∧ DrOk t := by
  obtain ⟨p,a,s,e1,hp,l1,u1⟩ := pick_ok h (by omega) (n := 5) (a := 0) (by omega) (by decide) 0
  have e1' : r56 5 0 0 c = _ := e1
  have hw : IntKind.i64.wrap (1 + (p : Int)) = ((1 + p : Nat) : Int) := by rw [wrap_i64 (by omega) (by omega)]; omega
  rcases draw_rows h hl (1 + p) a s [] (1000 + c.length + 0) (by omega) (by omega) (by simp; omega) (fun q hq => absurd hq (Nat.not_lt_zero _)) with ⟨k0,_⟩ | ⟨b,s2,y,e2,l2,u2,hy,hd⟩
  · omega
  · rw [List.length_nil] at hy
    obtain ⟨tr,b2,s3,e3,htr,l3,u3⟩ := pick_ok h (by omega) (n := y.length) (a := b) (by omega) (by omega) s2
    obtain ⟨b4,s4,z,e4,hz,hdz⟩ := draw_into h hl y.length tr (by omega) y.length 0 b2 s3 y (1000 + c.length + y.length) (by omega) (by omega) (by omega) rfl (fun q hq => by
      obtain ⟨i',j',k',l',e',g1,g2,g3,g4,g5,g6⟩ := hd q hq
      exact ⟨i',j',k',l',e',g1,g2,g3,g4,g5,by rcases g6 with g | ⟨g,_⟩ <;> exact .inl g⟩)
    have e4' : r54l1 (1000 + c.length + y.length) ((y.length : Nat) : Int) (tr : Int) 0 (b2 : Int) s3 y c = _ := e4
    refine ⟨z,?_,⟨by omega,by omega,tr,by omega,by rw [hz]; exact hdz⟩⟩
    unfold r9 r54 r55
    simp only [e1',hw,e2,e3,e4']
    rfl
theorem DrOk.ch {t : List (List Int)} (h : DrOk t) : ChOk t := by
  obtain ⟨tr,htr,hd⟩ := h.ex
  have n1 := h.n1
  have n2 := h.n2
  have trn : ic t tr 4 = -1 := by
    obtain ⟨i,j,k,l,e,_,_,_,_,g5,g6⟩ := hd tr htr
    show (t.getD tr []).getD 4 0 = -1
    rw [g5]
    rcases g6 with g | ⟨_,g⟩
    · exact g
    · exact absurd rfl g
  refine ⟨?_,n1,by omega,fun q hq => ?_,fun q hq => ?_⟩
  · intro r hr
    obtain ⟨q,hq,e⟩ := rows_getD hr
    obtain ⟨i,j,k,l,e',g1,g2,g3,g4,g5,g6⟩ := hd q hq
    have f := flue_drawn g1 g2 g3 g4
    have f1 := f.h
    have f2 := f.w
    have f3 := f.t0
    have f4 := f.d
    rw [← e,g5]
    refine ⟨ct_nat (by omega),ct_nat (by omega),ct_nat f3,ct_nat (by omega),?_,trivial⟩
    show IntKind.i64.min ≤ e' ∧ e' ≤ IntKind.i64.max
    have m1 : IntKind.i64.min = -9223372036854775808 := by decide
    have m2 : IntKind.i64.max = 9223372036854775807 := by decide
    rw [m1,m2]
    rcases g6 with g | ⟨g,_⟩ <;> omega
  · obtain ⟨i,j,k,l,e',g1,g2,g3,g4,g5,g6⟩ := hd q hq
    have f := flue_drawn g1 g2 g3 g4
    show FlueOk (Int.toNat ((t.getD q []).getD 0 0)) (Int.toNat ((t.getD q []).getD 1 0)) (Int.toNat ((t.getD q []).getD 2 0)) (Int.toNat ((t.getD q []).getD 3 0))
    rw [g5]
    exact f
  · obtain ⟨i,j,k,l,e',g1,g2,g3,g4,g5,g6⟩ := hd q hq
    have e : ic t q 4 = e' := by show (t.getD q []).getD 4 0 = e'; rw [g5]; rfl
    rw [e]
    rcases g6 with g | ⟨g,g'⟩
    · exact .inl g
    · refine .inr ⟨by omega,by omega,by omega,?_⟩
      rw [g,Int.toNat_natCast]; exact trn
theorem pick14 {c : List (List Int)} (h : RowsOk SU c) (hl : c.length ≤ 4096) {n : Nat} (hn : n ≤ 1000) : ∃ p : Nat,r10 (n : Int) c = (0,(p : Int)) ∧ (p < n ∨ p = 0) := by
  obtain ⟨p,a,s,e1,hp,_⟩ := pick_ok h (by omega) (n := n) (a := 0) (by omega) hn 0
  have e1' : r56 (n : Int) 0 0 c = _ := e1
  refine ⟨p,?_,hp⟩
  unfold r10 r55
  simp only [e1']
  rfl
end Go.Proofs.Ytmknfenjnladeaa
