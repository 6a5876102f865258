/- Chimneys: sizes, copies, sameness, validity. -/
import Derived.Test.YtffpnkkhcgjmfaaGreatDoorPfr1
import Derived.Test.YtffpnkkhcgjmfaaGreatDoorA31
import Derived.Test.YtffpnkkhcgjmfaaGreatDoorA26
namespace Go.Proofs.YtffpnkkhcgjmfaaGreatDoor
open Go.Ab

abbrev Sh5 : List CT := [.fl .f32, .fl .f32, .fl .f32, .fl .f32, .int .i64]
/-- a cell of a table -/
@[reducible] def fc (t : List (List Int)) (i j : Nat) : Nat := Int.toNat ((t.getD i []).getD j 0)
@[reducible] def ic (t : List (List Int)) (i j : Nat) : Int := (t.getD i []).getD j 0
theorem fc_lt {s : List CT} {t : List (List Int)} (h : RowsOk s t) {i j : Nat} (hi : i < t.length) (hj : s[j]? = some (.fl .f32)) : fc t i j < 4294967296 := CTok.lt32 ((h.get hi).get hj)
theorem amount_sw (d : Nat) (h : d < 4294967296) : r94 d = decide (d < 2139095040) ∧ r91 d = decide (d < 2139095040) := ⟨(amount_eq d h).2, (amount_eq d h).1⟩
theorem bne_len {a b : Nat} : (((a : Nat) : Int) != ((b : Nat) : Int)) = !decide (b = a) := by
  by_cases h : b = a
  · subst h; simp
  · rw [decide_eq_false h]
    simp only [bne, Bool.not_false, Bool.not_eq_true', beq_eq_false_iff_ne]
    omega
/-! ### numbers -/
/-- is a number between two others? -/
theorem btw {a lo hi : Nat} (h : r48 a lo hi = true) (hlo : Nn lo) (hhi : Nn hi) (l2 : lo < 4294967296) (h2 : hi < 4294967296) (a2 : a < 4294967296) : Nn a ∧ sv lo ≤ sv a ∧ sv a ≤ sv hi := by
  have hn : Nn a := by
    refine nn_isN.1 ?_
    cases e : isN .f32 a with
    | false => rfl
    | true =>
      unfold r48 w48 at h
      rw [fgt_nan_l e, feq_nan_l e] at h
      cases h
  unfold r48 w48 at h
  rw [fge_sv hn hlo a2 l2, fle_sv hn hhi a2 h2] at h
  by_cases h1 : sv lo ≤ sv a
  · rw [decide_eq_true h1, cond_true, decide_eq_true_eq] at h
    exact ⟨hn, h1, h⟩
  · rw [decide_eq_false h1] at h; cases h
theorem hot_eq (a : Nat) : r95 a = r48 a 3262119936 1153138688 := rfl
theorem share_eq (a : Nat) (h : a < 4294967296) : r96 a = r92 a := by
  unfold r96 w96 r92 w92
  rw [(amount_sw a h).1, (amount_sw a h).2]
/-! ### validity -/
noncomputable def flueB (t : List (List Int)) (i : Nat) : Bool := r46 (fc t i 0) (fc t i 1) (fc t i 2) (fc t i 3) (ic t i 4)
theorem FlueS {H W T D : Nat} {e : Int} (h0 : H < 4294967296) (h1 : W < 4294967296) (h3 : D < 4294967296) : r52 H W T D e = r46 H W T D e := by
  unfold r52 w52 r46 w46
  rw [(amount_sw _ h0).1, (amount_sw _ h0).2, (amount_sw _ h1).1, (amount_sw _ h1).2, hot_eq, share_eq _ h3]
  unfold r48 w48
  cases decide (H < 2139095040) with
  | false => rfl
  | true =>
  cases (fgt .f32 H 1031798784 || feq .f32 H 1031798784) with
  | false => rfl
  | true =>
  cases (flt .f32 H 1106247680 || feq .f32 H 1106247680) with
  | false => rfl
  | true =>
  cases decide (W < 2139095040) with
  | false => rfl
  | true =>
  cases (fgt .f32 W 1015021568 || feq .f32 W 1015021568) with
  | false => rfl
  | true =>
  cases (flt .f32 W 1082130432 || feq .f32 W 1082130432) with
  | false => rfl
  | true =>
  cases (fgt .f32 T 3262119936 || feq .f32 T 3262119936) with
  | false => rfl
  | true => cases (flt .f32 T 1153138688 || feq .f32 T 1153138688) <;> rfl
/-- where a flue leads -/
noncomputable def intoB (t : List (List Int)) (i : Nat) : Bool := decide (ic t i 4 = -1) || (decide (0 ≤ ic t i 4 ∧ ic t i 4 < t.length ∧ ic t i 4 ≠ i) && decide (ic t (ic t i 4).toNat 4 = -1))
noncomputable def pC (t : List (List Int)) (i : Nat) : Bool := flueB t i && intoB t i
theorem loopI {t : List (List Int)} (hl : t.length ≤ 1048576) {fuel : Nat} (hf : t.length < fuel) : r16l0 fuel ((t.length : Nat) : Int) 0 t = cond (allN t.length (pC t)) 1 0 := by
  refine all_loop (n := t.length) (p := pC t) (yes := 1) (no := 0) (G := fun m i => r16l0 m ((t.length : Nat) : Int) i t) ?_ ?_ hf
  · intro m
    show b16l0 (r16l0 m) _ _ _ = _
    unfold b16l0
    rw [dlt_f (Nat.lt_irrefl _)]; rfl
  · intro m i hi
    show b16l0 (r16l0 m) _ _ _ = _
    unfold b16l0 pC intoB
    simp only [Int.toNat_natCast]
    rw [dlt_t hi, dle0, blt_t hi, wrap_succ (by omega), show r46 (fc t i 0) (fc t i 1) (fc t i 2) (fc t i 3) (ic t i 4) = flueB t i from rfl]
    cases flueB t i with
    | false => rfl
    | true =>
    show cond (ic t i 4 == -1) _ (cond (decide (ic t i 4 < 0)) 0 (cond (decide (ic t i 4 ≥ (t.length : Int))) 0 (cond (ic t i 4 == (i : Int)) 0 _))) = _
    by_cases h1 : ic t i 4 = -1
    · rw [h1]; rfl
    · rw [show (ic t i 4 == -1) = false from beq_eq_false_iff_ne.2 h1, decide_eq_false h1]
      by_cases h2 : 0 ≤ ic t i 4 ∧ ic t i 4 < t.length ∧ ic t i 4 ≠ i
      · rw [decide_eq_true h2, decide_eq_false (show ¬ ic t i 4 < 0 by omega), decide_eq_false (show ¬ ic t i 4 ≥ (t.length : Int) by omega), show (ic t i 4 == (i : Int)) = false from beq_eq_false_iff_ne.2 h2.2.2, decide_eq_true h2.1, blt_t (show (ic t i 4).toNat < t.length by omega)]
        show cond (ic t (ic t i 4).toNat 4 != -1) _ _ = _
        by_cases h3 : ic t (ic t i 4).toNat 4 = -1
        · rw [h3]; rfl
        · rw [decide_eq_false h3, show (ic t (ic t i 4).toNat 4 != -1) = true from bne_iff_ne.2 h3]; rfl
      · rw [decide_eq_false h2]
        by_cases h3 : ic t i 4 < 0
        · rw [decide_eq_true h3]; rfl
        · rw [decide_eq_false h3]
          by_cases h4 : ic t i 4 ≥ (t.length : Int)
          · rw [decide_eq_true h4]; rfl
          · rw [decide_eq_false h4]
            have h5 : ic t i 4 = i := by omega
            rw [h5, beq_self_eq_true]; rfl
/-- a flue that is valid -/
structure FlueOk (H W T D : Nat) : Prop where
  h : H < 2139095040
  w : W < 2139095040
  d : D ≤ 1065353216
  h1 : sv 1031798784 ≤ sv H
  h2 : sv H ≤ sv 1106247680
  w1 : sv 1015021568 ≤ sv W
  w2 : sv W ≤ sv 1082130432
  tn : Nn T
  t0 : T < 4294967296
  t1 : sv 3262119936 ≤ sv T
  t2 : sv T ≤ sv 1153138688
/-- a chimney that is valid -/
structure ChOk (t : List (List Int)) : Prop where
  rows : RowsOk Sh5 t
  n1 : 1 ≤ t.length
  n2 : t.length ≤ 6
  flue : ∀ i, i < t.length → FlueOk (fc t i 0) (fc t i 1) (fc t i 2) (fc t i 3)
  into : ∀ i, i < t.length → ic t i 4 = -1 ∨ (0 ≤ ic t i 4 ∧ ic t i 4 < t.length ∧ ic t i 4 ≠ i ∧ ic t (ic t i 4).toNat 4 = -1)
theorem share_pos {a : Nat} (ha : a < 4294967296) (h : r92 a = true) : a ≤ 1065353216 := by
  unfold r92 w92 at h
  rw [(amount_sw a ha).2] at h
  by_cases h1 : a < 2139095040
  · rw [decide_eq_true h1, cond_true, fle_sv (by unfold Nn; omega) (by unfold Nn; decide) ha (by decide), decide_eq_true_eq, sv_pos (by omega), sv_pos (by decide)] at h
    exact rv_le_iff.1 (by omega)
  · rw [decide_eq_false h1] at h; cases h
theorem flue_ok {t : List (List Int)} (h : RowsOk Sh5 t) {i : Nat} (hi : i < t.length) (hb : flueB t i = true) : FlueOk (fc t i 0) (fc t i 1) (fc t i 2) (fc t i 3) := by
  have l0 := fc_lt h hi (j := 0) rfl
  have l1 := fc_lt h hi (j := 1) rfl
  have l2 := fc_lt h hi (j := 2) rfl
  have l3 := fc_lt h hi (j := 3) rfl
  unfold flueB r46 w46 at hb
  rw [(amount_sw _ l0).2, (amount_sw _ l1).2] at hb
  by_cases g1 : fc t i 0 < 2139095040
  · rw [decide_eq_true g1, cond_true] at hb
    cases g2 : r48 (fc t i 0) 1031798784 1106247680 with
    | false => rw [g2] at hb; cases hb
    | true =>
    rw [g2, cond_true] at hb
    by_cases g3 : fc t i 1 < 2139095040
    · rw [decide_eq_true g3, cond_true] at hb
      cases g4 : r48 (fc t i 1) 1015021568 1082130432 with
      | false => rw [g4] at hb; cases hb
      | true =>
      rw [g4, cond_true] at hb
      cases g5 : r48 (fc t i 2) 3262119936 1153138688 with
      | false => rw [g5] at hb; cases hb
      | true =>
      rw [g5, cond_true] at hb
      have k0 := btw g2 (by unfold Nn; decide) (by unfold Nn; decide) (by decide) (by decide) l0
      have k1 := btw g4 (by unfold Nn; decide) (by unfold Nn; decide) (by decide) (by decide) l1
      have k2 := btw g5 (by unfold Nn; decide) (by unfold Nn; decide) (by decide) (by decide) l2
      exact ⟨g1, g3, share_pos l3 hb, k0.2.1, k0.2.2, k1.2.1, k1.2.2, k2.1, l2, k2.2.1, k2.2.2⟩
    · rw [decide_eq_false g3] at hb; cases hb
  · rw [decide_eq_false g1] at hb; cases hb
theorem valid_i {t : List (List Int)} (h : RowsOk Sh5 t) (hl : t.length ≤ 1048576) : ∃ b, r16 t = (0, b) ∧ (b = true → ChOk t) := by
  unfold r16 w16
  rw [loopI hl (by omega)]
  by_cases h1 : 1 ≤ t.length
  · rw [decide_eq_false (show ¬ (((t.length : Nat) : Int)) < 1 by omega)]
    by_cases h2 : t.length ≤ 6
    · rw [decide_eq_false (show ¬ (((t.length : Nat) : Int)) > 6 by omega)]
      cases e : allN t.length (pC t) with
      | false => exact ⟨false, rfl, fun e => by cases e⟩
      | true =>
        refine ⟨true, rfl, fun _ => ?_⟩
        have al := allN_true.1 e
        refine ⟨h, h1, h2, fun i hi => ?_, fun i hi => ?_⟩
        · have := al i hi
          unfold pC at this
          rw [Bool.and_eq_true] at this
          exact flue_ok h hi this.1
        · have := al i hi
          unfold pC at this
          rw [Bool.and_eq_true] at this
          have := this.2
          unfold intoB at this
          rw [Bool.or_eq_true, Bool.and_eq_true, decide_eq_true_eq, decide_eq_true_eq, decide_eq_true_eq] at this
          rcases this with g | ⟨⟨g1, g2, g3⟩, g4⟩
          · exact .inl g
          · exact .inr ⟨g1, g2, g3, g4⟩
    · rw [decide_eq_true (show (((t.length : Nat) : Int)) > 6 by omega)]
      exact ⟨false, rfl, fun e => by cases e⟩
  · rw [decide_eq_true (show (((t.length : Nat) : Int)) < 1 by omega)]
    exact ⟨false, rfl, fun e => by cases e⟩
theorem r48_of {a lo hi : Nat} (ha : Nn a) (a2 : a < 4294967296) (hlo : Nn lo) (hhi : Nn hi) (l2 : lo < 4294967296) (h2 : hi < 4294967296) (h : sv lo ≤ sv a) (h' : sv a ≤ sv hi) : r48 a lo hi = true := by
  unfold r48 w48
  rw [fge_sv ha hlo a2 l2, fle_sv ha hhi a2 h2, decide_eq_true h, decide_eq_true h']; rfl
theorem FlueOk.ok46 {H W T D : Nat} {e : Int} (h : FlueOk H W T D) : r46 H W T D e = true := by
  unfold r46 w46
  rw [(amount_sw H (by have := h.h; omega)).2, decide_eq_true h.h, (amount_sw W (by have := h.w; omega)).2, decide_eq_true h.w]
  rw [r48_of (by have := h.h; unfold Nn; omega) (by have := h.h; omega) (by unfold Nn; decide) (by unfold Nn; decide) (by decide) (by decide) h.h1 h.h2]
  rw [r48_of (by have := h.w; unfold Nn; omega) (by have := h.w; omega) (by unfold Nn; decide) (by unfold Nn; decide) (by decide) (by decide) h.w1 h.w2]
  rw [r48_of h.tn h.t0 (by unfold Nn; decide) (by unfold Nn; decide) (by decide) (by decide) h.t1 h.t2]
  show r92 D = true
  unfold r92 w92
  have := h.d
  rw [(amount_sw D (by omega)).2, decide_eq_true (show D < 2139095040 by omega), cond_true, fle_sv (by unfold Nn; omega) (by unfold Nn; decide) (by omega) (by decide), decide_eq_true_eq, sv_pos (by omega), sv_pos (by decide)]
  have := rv_le this
  omega
theorem ChOk.ok16 {t : List (List Int)} (h : ChOk t) : r16 t = (0, true) := by
  have hl := h.n2
  unfold r16 w16
  rw [loopI (by omega) (by omega), decide_eq_false (show ¬ (((t.length : Nat) : Int)) < 1 by have := h.n1; omega), decide_eq_false (show ¬ (((t.length : Nat) : Int)) > 6 by omega)]
  have e : allN t.length (pC t) = true := allN_true.2 fun i hi => by
    unfold pC flueB intoB
    rw [(h.flue i hi).ok46, Bool.true_and]
    rcases h.into i hi with g | ⟨g1, g2, g3, g4⟩
    · rw [decide_eq_true g]; rfl
    · rw [decide_eq_true (show 0 ≤ ic t i 4 ∧ ic t i 4 < t.length ∧ ic t i 4 ≠ i from ⟨g1, g2, g3⟩), decide_eq_true g4, Bool.and_self, Bool.or_true]
  rw [e]; rfl
/-- what a heat outside and a wind may be -/
structure WOk (o w : Nat) : Prop where
  on : Nn o
  o0 : o < 4294967296
  o1 : sv 3262119936 ≤ sv o
  o2 : sv o ≤ sv 1114636288
  wn : Nn w
  w0 : w < 4294967296
  w1 : sv 3296329728 ≤ sv w
  w2 : sv w ≤ sv 1148846080
end Go.Proofs.YtffpnkkhcgjmfaaGreatDoor

namespace Go.Proofs.YtffpnkkhcgjmfaaGreatDoor
open Go.Ab

/-- a table whose rows are marked from row i on -/
def markT (M : Int → List Int) (C : Int) : Nat → Int → Nat → List (List Int) → List (List Int)
  | 0, _, _, l => l
  | n + 1, k, i, l => markT M C n (k + C) (i + 1) (l.set i (M k))
theorem markT_len (M : Int → List Int) (C : Int) : ∀ (n : Nat) (k : Int) (i : Nat) (l : List (List Int)), (markT M C n k i l).length = l.length
  | 0, _, _, _ => rfl
  | n + 1, k, i, l => by rw [markT, markT_len M C n, List.length_set]
theorem markT_old (M : Int → List Int) (C : Int) : ∀ (n : Nat) (k : Int) (i j : Nat) (l : List (List Int)), j < i → (markT M C n k i l).getD j [] = l.getD j []
  | 0, _, _, _, _, _ => rfl
  | n + 1, k, i, j, l, h => by
    rw [markT, markT_old M C n _ _ _ _ (by omega)]
    simp [List.getD, List.getElem?_set_ne (show i ≠ j by omega)]
theorem markT_get (M : Int → List Int) (C : Int) : ∀ (n : Nat) (k : Int) (i j : Nat) (l : List (List Int)), i + n = l.length → j < n → (markT M C n k i l).getD (i + j) [] = M (k + C * (j : Int))
  | 0, _, _, _, _, _, h => by omega
  | n + 1, k, i, 0, l, h, _ => by
    rw [markT, Nat.add_zero, markT_old M C n _ _ _ _ (by omega)]
    have hi : i < l.length := by omega
    simp [List.getD, hi]
  | n + 1, k, i, j + 1, l, h, hj => by
    rw [markT, show i + (j + 1) = i + 1 + j by omega, markT_get M C n _ _ _ _ (by rw [List.length_set]; omega) (by omega)]
    congr 1
    rw [show ((j + 1 : Nat) : Int) = (j : Int) + 1 by omega, Int.mul_add, Int.mul_one]
    omega
theorem modify_const (l : List (List Int)) (i : Nat) (x : List Int) : l.modify i (fun _ => x) = l.set i x := by
  apply List.ext_getElem?
  intro j
  by_cases h : i = j
  · subst h
    by_cases hi : i < l.length
    · simp [List.getElem?_modify, List.getElem?_set, hi]
    · simp [List.getElem?_modify, List.getElem?_set, hi]
  · simp [List.getElem?_modify, List.getElem?_set, h]
def M5 (k : Int) : List Int := [((ofInt .f32 k : Nat) : Int), ((ofInt .f32 (k + 1) : Nat) : Int), ((ofInt .f32 (k + 1 + 1) : Nat) : Int), ((ofInt .f32 (k + 1 + 1 + 1) : Nat) : Int), k + 1 + 1 + 1 + 1]
theorem spl5 (r : List Int) (a b c d e : Int) : spl 5 (spl 5 (spl 5 (spl 5 (spl 5 r 0 [a]) 1 [b]) 2 [c]) 3 [d]) 4 [e] = [a, b, c, d, e] := rfl
theorem mod5 (l : List (List Int)) (i : Nat) (a b c d e : Int) : ((((l.modify i (fun r => spl 5 r 0 [a])).modify i (fun r => spl 5 r 1 [b])).modify i (fun r => spl 5 r 2 [c])).modify i (fun r => spl 5 r 3 [d])).modify i (fun r => spl 5 r 4 [e]) = l.set i [a, b, c, d, e] := by
  rw [modify_modify, modify_modify, modify_modify, modify_modify]
  exact modify_const l i [a, b, c, d, e]
theorem w1 {k : Int} (h0 : 0 ≤ k) (h1 : k ≤ 1000000000) : IntKind.i64.wrap (k + 1) = k + 1 := wrap_i64 (by omega) (by omega)
end Go.Proofs.YtffpnkkhcgjmfaaGreatDoor

namespace Go.Proofs.YtffpnkkhcgjmfaaGreatDoor
open Go.Ab

abbrev DASH : ByteArray := ByteArray.mk #[45]
def decL (n : Nat) : List UInt8 := [UInt8.ofNat (48 + n)]
/-! ### the reference's whole numbers -/
def bt (s : ByteArray) (i : Nat) : Nat := (List.getD s.data.toList i 0).toNat
theorem bt_lt (s : ByteArray) (i : Nat) : bt s i < 256 := UInt8.toNat_lt _
theorem mk_list (s : ByteArray) : s = mkB s.data.toList := rfl
theorem dec_all : ∀ d : Fin 6, 48 ≤ (UInt8.ofNat (48 + d.val)).toNat ∧ (UInt8.ofNat (48 + d.val)).toNat = 48 + d.val := by decide +kernel
/-! ### the program's -/
theorem p_all : ∀ d : Fin 6, pInt (mkB (decL d.val)) = (d.val : Int) ∧ pOk (mkB (decL d.val)) = true := by decide +kernel
theorem p_dec {n : Nat} (h : n ≤ 5) : pInt (mkB (decL n)) = (n : Int) ∧ pOk (mkB (decL n)) = true := p_all ⟨n, by omega⟩
theorem dig_all : ∀ d : Fin 6, Lib.decDigits d.val = decL d.val := by decide +kernel
theorem dig_dec {n : Nat} (h : n ≤ 5) : digB (n : Int) = mkB (decL n) := by
  unfold digB
  rw [Int.toNat_natCast, dig_all ⟨n, by omega⟩]; rfl
theorem dash_all : ∀ d : Fin 6, (mkB (decL d.val)).data.toList = DASH.data.toList → False := by decide +kernel
theorem p_range {s : ByteArray} (h : pOk s = true) : -9223372036854775808 ≤ pInt s ∧ pInt s ≤ 9223372036854775807 := by
  unfold pOk at h
  unfold pInt
  rcases hp : Lib.parseIntB 64 s.data.toList with v | _ | _
  rotate_left
  · rw [hp] at h; cases h
  · rw [hp] at h; cases h
  · show -9223372036854775808 ≤ v ∧ v ≤ 9223372036854775807
    unfold Lib.parseIntB at hp
    split at hp
    · cases hp
    · rename_i c r hl
      simp only at hp
      split at hp
      · cases hp
      · cases hp
      · rename_i u hu
        split at hp
        · cases hp
        · split at hp
          · cases hp
          · cases hp
            rename_i q1 q2
            have e : (2 : Nat) ^ (64 - 1) = 9223372036854775808 := by decide
            rw [e] at q1 q2
            split
            · rename_i hn
              have : u ≤ 9223372036854775808 := by
                apply Classical.byContradiction; intro hc; exact q2 ⟨hn, by omega⟩
              omega
            · rename_i hn
              have : u < 9223372036854775808 := by
                apply Classical.byContradiction; intro hc; exact q1 ⟨hn, by omega⟩
              omega
end Go.Proofs.YtffpnkkhcgjmfaaGreatDoor

namespace Go.Proofs.YtffpnkkhcgjmfaaGreatDoor
open Go.Ab

/-! ### the program's reader of words -/
noncomputable def num (W : List ByteArray) (m : Nat) : Nat := if m < W.length then (rdB (W.getD m .empty)).getD 0 else 0
noncomputable def nb (W : List ByteArray) (m : Nat) : Bool := !(decide (m < W.length) && (rdB (W.getD m .empty)).isSome)
noncomputable def bd (W : List ByteArray) : Nat → Bool
  | 0 => false
  | m + 1 => bd W m || nb W m
theorem bd_false {W : List ByteArray} : ∀ {m : Nat}, bd W m = false → ∀ j, j < m → j < W.length ∧ (rdB (W.getD j .empty)).isSome = true
  | 0, h, j, h1 => by omega
  | m + 1, h, j, h1 => by
    unfold bd at h
    rw [Bool.or_eq_false_iff] at h
    by_cases hj : j < m
    · exact bd_false h.1 j hj
    · obtain rfl : j = m := by omega
      have := h.2
      unfold nb at this
      rw [Bool.not_eq_false', Bool.and_eq_true, decide_eq_true_eq] at this
      exact this
theorem bd_of {W : List ByteArray} : ∀ {m : Nat}, (∀ j, j < m → j < W.length ∧ (rdB (W.getD j .empty)).isSome = true) → bd W m = false
  | 0, _ => rfl
  | m + 1, h => by
    unfold bd nb
    rw [bd_of fun j h1 => h j (by omega), decide_eq_true (h m (by omega)).1, (h m (by omega)).2]
    rfl
theorem num_lt (W : List ByteArray) (m : Nat) : num W m < 4294967296 := by
  unfold num
  split
  · cases h : rdB (W.getD m .empty) with
    | none => show 0 < _; omega
    | some v => exact (numL_rdL h).1
  · omega
theorem next_some {off len : Nat} {bad : Bool} {W : List ByteArray} (h1 : 0 < len) (h2 : off + len = W.length) : r81 off len bad W = (0, W.getD off .empty, off + 1, len - 1, bad) := by
  unfold r81 w81
  rw [show (((len : Nat) : Int) == 0) = false from beq_eq_false_iff_ne.2 (by omega), blt_t h1, blt_t (show off + 0 < W.length by omega), Nat.ble_eq_true_of_le (show 1 ≤ len from h1), Nat.ble_eq_true_of_le (Nat.le_refl len)]
  rfl
theorem next_none {off : Nat} {bad : Bool} {W : List ByteArray} : r81 off 0 bad W = (0, ByteArray.mk #[], off, 0, true) := rfl
noncomputable def sdI (w : ByteArray) : Int := cond (w.toList == DASH.toList) (-1) (pInt w)
noncomputable def okI (w : ByteArray) : Bool := (w.toList == DASH.toList) || pOk w
noncomputable def rowOf (W : List ByteArray) (x : Int) : List Int := [((num W 0 : Nat) : Int), ((num W 1 : Nat) : Int), ((num W 2 : Nat) : Int), ((num W 3 : Nat) : Int), x]
section
variable {W : List ByteArray} {L : Nat} (hL : W.length = L)
include hL
theorem number_eq (m : Nat) : r37 (min m L) (L - min m L) (bd W m) W = (0, num W m, min (m + 1) L, L - min (m + 1) L, bd W (m + 1)) := by
  unfold r37 w37
  by_cases h : m < L
  · rw [show min m L = m by omega, show min (m + 1) L = m + 1 by omega, next_some (by omega) (by omega), bd]
    simp only [read_impl]
    unfold nb num
    rw [decide_eq_true (show m < W.length by omega), if_pos (show m < W.length by omega)]
    unfold rdB
    rw [show L - m - 1 = L - (m + 1) by omega]
    cases bd W m with
    | true => rfl
    | false =>
      cases rdL (W.getD m .empty).data.toList with
      | none => rfl
      | some v => rfl
  · rw [show min m L = L by omega, show min (m + 1) L = L by omega, Nat.sub_self, next_none, bd]
    simp only [read_impl]
    unfold nb num
    rw [decide_eq_false (show ¬ m < W.length by omega), if_neg (show ¬ m < W.length by omega)]
    cases bd W m <;> rfl
theorem side_many (h4 : 4 < L) (hsz : (W.getD 4 .empty).size ≤ 281474976710656) : r38 4 (L - 4) (bd W 4) W = (0, sdI (W.getD 4 .empty), 5, L - 5, bd W 4 || !(okI (W.getD 4 .empty))) := by
  have e81 : r81 4 (L - 4) (bd W 4) W = (0, W.getD 4 .empty, 5, L - 5, bd W 4) := by
    rw [next_some (by omega) (by omega), show L - 4 - 1 = L - 5 by omega]
  have e82 : r82 4 (L - 4) (bd W 4) W = (0, pInt (W.getD 4 .empty), 5, L - 5, bd W 4 || !(pOk (W.getD 4 .empty))) := by
    unfold r82 w82
    rw [e81]
    simp only
    rw [Nat.ble_eq_true_of_le hsz]
    cases bd W 4 <;> rfl
  unfold r38 w38 sdI okI
  rw [decide_eq_true (show ((L - 4 : Nat) : Int) > 0 by omega), blt_t (show 0 < L - 4 by omega), blt_t (show 4 + 0 < W.length by omega), e81, e82, Nat.add_zero]
  cases (W.getD 4 .empty).toList == DASH.toList with
  | true => simp [Nat.beq]
  | false => simp [Nat.beq]
omit hL in
theorem side_few (h4 : L ≤ 4) : r38 L 0 (bd W 4) W = (0, pInt (ByteArray.mk #[]), L, 0, true) := by
  have e82 : r82 L 0 (bd W 4) W = (0, pInt (ByteArray.mk #[]), L, 0, true) := by
    unfold r82 w82
    rw [next_none]
    rfl
  unfold r38 w38
  rw [e82]
  rfl
end
/-- the program's row of a line -/
noncomputable def goodI (W : List ByteArray) : Bool := decide (W.length = 5) && (!bd W 4 && okI (W.getD 4 .empty))
noncomputable def lineI (s : ByteArray) : Option (List Int) := cond (goodI (splB 32 s)) (some (rowOf (splB 32 s) (sdI ((splB 32 s).getD 4 .empty)))) none
/-- what a round does behind a line -/
def comb (o : List (List Int)) (p : Nat × List (List Int) × List (List Int)) : Nat × List (List Int) × List (List Int) :=
  cond (Nat.beq p.1 0) (1, o, []) (cond (Nat.beq p.1 1) (1, p.2.1, []) (cond (Nat.beq p.1 2) (2, [], p.2.2) (cond (Nat.beq p.1 3) (2, [], o) (4, [], []))))
theorem splB_sizes {c : UInt8} {s : ByteArray} (hs : s.size ≤ 1048576) (j : Nat) : ((splB c s).getD j .empty).size ≤ 281474976710656 := by
  have key : ∀ x ∈ splB c s, x.size ≤ 1048576 := by
    intro x hx
    rw [splB_eq, List.mem_map] at hx
    obtain ⟨l, hl, rfl⟩ := hx
    rw [mkB_size]
    have hj := join_splitL c s.data.toList
    have : ∀ (L : List (List UInt8)), l ∈ L → l.length ≤ (joinL c L).length := by
      intro L
      induction L with
      | nil => intro h; cases h
      | cons y r ih =>
        intro h
        by_cases hr : r = []
        · subst hr
          rcases List.mem_cons.1 h with h | h
          · subst h; simp [joinL]
          · cases h
        · rw [joinL_cons c y hr, List.length_append, List.length_cons]
          rcases List.mem_cons.1 h with h | h
          · subst h; omega
          · have := ih h; omega
    have h2 := this _ hl
    rw [hj] at h2
    have := size_eq s
    omega
  by_cases hj : j < (splB c s).length
  · rw [List.getD_eq_getElem?_getD, List.getElem?_eq_getElem hj]
    have := key _ (List.getElem_mem hj)
    show ((splB c s)[j]).size ≤ _
    omega
  · rw [List.getD_eq_getElem?_getD, List.getElem?_eq_none (by omega)]
    show ByteArray.empty.size ≤ _
    decide
theorem round_impl {ih : ByteArray → Nat → Nat → Int → Int → List (List Int) → List ByteArray → (Nat × List (List Int) × List (List Int))} {x : ByteArray} {n i : Nat} {o : List (List Int)} {S : List ByteArray} (hn : n ≤ 100) (hi : i < n) (hS : n ≤ S.length) (ho : o.length ≤ 100) (hsz : (S.getD i .empty).size ≤ 1048576) :
    b7l0b ih x 0 n (n : Int) (i : Int) o S = match lineI (S.getD i .empty) with
      | none => (0, [], [])
      | some r => comb (o ++ [r]) (ih x 0 n (n : Int) ((i + 1 : Nat) : Int) (o ++ [r]) S) := by
  have e36 : r36 (S.getD i .empty) = (0, (splB 32 (S.getD i .empty)).length, splB 32 (S.getD i .empty)) := by
    unfold r36 w36
    rw [blt_t (by omega)]; rfl
  have hw4 := splB_sizes (c := 32) hsz 4
  unfold b7l0b w7l0b lineI goodI
  rw [Nat.zero_add, Int.toNat_natCast, e36]
  generalize hW : splB 32 (S.getD i .empty) = W at hw4 ⊢
  obtain ⟨L, hL⟩ : ∃ L, W.length = L := ⟨_, rfl⟩
  have n0 : r37 0 L false W = (0, num W 0, min 1 L, L - min 1 L, bd W 1) := by
    have := number_eq hL 0
    rw [Nat.zero_min, Nat.sub_zero] at this
    exact this
  have n1 := number_eq hL 1
  have n2 := number_eq hL 2
  have n3 := number_eq hL 3
  simp only [hL, n0, n1, n2, n3]
  rw [dlt_t hi, dle0, blt_t hi, blt_t (show i < S.length by omega), wrap_succ (by omega), Nat.ble_eq_true_of_le (show (o.length + 1) * 25 ≤ 140737488355328 by omega), take_all']
  by_cases h4 : 4 < L
  · rw [show min (3 + 1) L = 4 by omega, side_many hL h4 hw4]
    simp only [r39, w39]
    by_cases h5 : L = 5
    · subst h5
      rw [decide_eq_true rfl]
      cases hb : bd W 4 with
      | true => rfl
      | false =>
        cases ho : okI (W.getD 4 .empty) with
        | false => rfl
        | true => rfl
    · rw [decide_eq_false h5, show (((L - 5 : Nat) : Int) == 0) = false from beq_eq_false_iff_ne.2 (by omega)]
      cases bd W 4 || !okI (W.getD 4 .empty) <;> rfl
  · rw [show min (3 + 1) L = L by omega, Nat.sub_self, side_few (by omega), decide_eq_false (show ¬ L = 5 by omega)]
    rfl
end Go.Proofs.YtffpnkkhcgjmfaaGreatDoor
