/- Lines of a chimney: whole numbers, words. -/
import Derived.Test.YtffpnkkhcgjmfaaGreatDoorPrm4
namespace Go.Proofs.YtffpnkkhcgjmfaaGreatDoor
open Go.Ab

abbrev DASH : ByteArray := ByteArray.mk #[45]
def decL (n : Nat) : List UInt8 := [UInt8.ofNat (48 + n)]
/-! ### the reference's whole numbers -/
def bt (s : ByteArray) (i : Nat) : Nat := (List.getD s.data.toList i 0).toNat
theorem bt_lt (s : ByteArray) (i : Nat) : bt s i < 256 := UInt8.toNat_lt _
theorem step33 {s : ByteArray} {i a m : Nat} (hi : i < s.size) (h9 : s.size ≤ 9) (ha : a < 10 ^ i) : r33l0 (m + 1) s (a : Int) (i : Int) = if 48 ≤ bt s i ∧ bt s i ≤ 57 then r33l0 m s ((a * 10 + (bt s i - 48) : Nat) : Int) ((i + 1 : Nat) : Int) else (0, (a : Int), 0) := by
  have hp : 10 ^ i ≤ 10 ^ 8 := Nat.pow_le_pow_right (by omega) (by omega)
  have hp' : (10 : Nat) ^ 8 = 100000000 := by decide
  have hb := bt_lt s i
  show b33l0 (r33l0 m) _ _ _ = _
  unfold b33l0
  rw [dlt_t hi, dle0, Int.toNat_natCast, blt_t hi, wrap_succ (by omega)]
  show cond true (cond (true && true) (cond (decide (((bt s i : Nat) : Int) < 48)) _ (cond (decide (((bt s i : Nat) : Int) > 57)) _ (r33l0 m s (IntKind.i64.wrap (IntKind.i64.wrap ((a : Int) * 10) + IntKind.i64.wrap (IntKind.u8.wrap (((bt s i : Nat) : Int) - 48)))) _))) _) _ = _
  by_cases h1 : bt s i < 48
  · rw [decide_eq_true (by omega), if_neg (by omega)]; rfl
  · rw [decide_eq_false (by omega)]
    by_cases h2 : bt s i > 57
    · rw [decide_eq_true (by omega), if_neg (by omega)]; rfl
    · rw [decide_eq_false (by omega), if_pos (by omega), wrap_u8 (by omega) (by omega), wrap_i64 (n := ((bt s i : Nat) : Int) - 48) (by omega) (by omega), wrap_i64 (n := (a : Int) * 10) (by omega) (by omega), wrap_i64 (by omega) (by omega)]
      rw [show (a : Int) * 10 + (((bt s i : Nat) : Int) - 48) = ((a * 10 + (bt s i - 48) : Nat) : Int) by omega]
      rfl
theorem end33 {s : ByteArray} {a m : Nat} : r33l0 (m + 1) s (a : Int) (s.size : Int) = (1, 0, (a : Int)) := by
  show b33l0 (r33l0 m) _ _ _ = _
  unfold b33l0
  rw [dlt_f (Nat.lt_irrefl _)]; rfl
theorem num_loop {s : ByteArray} (h9 : s.size ≤ 9) : ∀ (k i a fuel : Nat), i + k = s.size → k < fuel → a < 10 ^ i →
    (∃ q, r33l0 fuel s (a : Int) (i : Int) = (0, q, 0)) ∨ (∃ v : Nat, r33l0 fuel s (a : Int) (i : Int) = (1, 0, (v : Int)) ∧ 10 ^ k * a ≤ v ∧ v < 10 ^ s.size) := by
  intro k
  induction k with
  | zero =>
    intro i a fuel h hf ha
    obtain ⟨m, rfl⟩ : ∃ m, fuel = m + 1 := ⟨fuel - 1, by omega⟩
    obtain rfl : i = s.size := by omega
    exact .inr ⟨a, end33, by omega, ha⟩
  | succ k ih =>
    intro i a fuel h hf ha
    obtain ⟨m, rfl⟩ : ∃ m, fuel = m + 1 := ⟨fuel - 1, by omega⟩
    rw [step33 (by omega) h9 ha]
    by_cases hd : 48 ≤ bt s i ∧ bt s i ≤ 57
    · rw [if_pos hd]
      rcases ih (i + 1) (a * 10 + (bt s i - 48)) m (by omega) (by omega) (by rw [Nat.pow_succ]; omega) with g | ⟨v, g1, g2, g3⟩
      · exact .inl g
      · refine .inr ⟨v, g1, ?_, g3⟩
        have : 10 ^ (k + 1) * a = 10 ^ k * (a * 10) := by rw [Nat.pow_succ, Nat.mul_assoc, Nat.mul_comm 10 a]
        rw [this]
        exact Nat.le_trans (Nat.mul_le_mul_left _ (Nat.le_add_right _ _)) g2
    · rw [if_neg hd]; exact .inl ⟨_, rfl⟩
theorem num_one (c : UInt8) : r33 (mkB [c]) = if 48 ≤ c.toNat ∧ c.toNat ≤ 57 then (0, ((c.toNat - 48 : Nat) : Int), true) else (0, 0, false) := by
  have hs : (mkB [c]).size = 1 := mkB_size _
  have hb : bt (mkB [c]) 0 = c.toNat := rfl
  have e := step33 (s := mkB [c]) (i := 0) (a := 0) (m := 1000) (by omega) (by omega) (by decide)
  have e1 := end33 (s := mkB [c]) (a := 0 * 10 + (c.toNat - 48)) (m := 999)
  rw [hs] at e1
  rw [hb] at e
  unfold r33 w33
  rw [hs]
  have e' : r33l0 (1000 + 1) (mkB [c]) 0 0 = if 48 ≤ c.toNat ∧ c.toNat ≤ 57 then (1, 0, ((c.toNat - 48 : Nat) : Int)) else (0, 0, 0) := by
    refine Eq.trans e ?_
    split
    · refine Eq.trans e1 ?_
      rw [Nat.zero_mul, Nat.zero_add]
    · rfl
  rw [e']
  split
  · cases ((((UInt8.toNat (List.getD (ByteArray.data (mkB [c])).toList 0 0) : Nat) : Int) : Int) == 48) <;> rfl
  · cases ((((UInt8.toNat (List.getD (ByteArray.data (mkB [c])).toList 0 0) : Nat) : Int) : Int) == 48) <;> rfl
theorem mk_list (s : ByteArray) : s = mkB s.data.toList := rfl
theorem number_spec (s : ByteArray) : ∃ (v : Nat) (b : Bool), r33 s = (0, (v : Int), b) ∧ v < 1000000000 ∧ (b = true → v ≤ 5 → s = mkB (decL v)) := by
  have hsz := size_eq s
  by_cases h0 : s.size < 1
  · refine ⟨0, false, ?_, by omega, fun h => by cases h⟩
    unfold r33 w33
    rw [decide_eq_true (show ((s.size : Nat) : Int) < 1 by omega)]; rfl
  by_cases h9 : s.size > 9
  · refine ⟨0, false, ?_, by omega, fun h => by cases h⟩
    unfold r33 w33
    rw [decide_eq_false (show ¬ ((s.size : Nat) : Int) < 1 by omega), decide_eq_true (show ((s.size : Nat) : Int) > 9 by omega)]; rfl
  by_cases h1 : s.size = 1
  · obtain ⟨c, hc⟩ : ∃ c, s.data.toList = [c] := List.length_eq_one_iff.1 (by omega)
    have es : s = mkB [c] := by rw [← hc]; rfl
    rw [es, num_one]
    by_cases hd : 48 ≤ c.toNat ∧ c.toNat ≤ 57
    · rw [if_pos hd]
      refine ⟨c.toNat - 48, true, rfl, by omega, fun _ _ => ?_⟩
      unfold decL
      rw [show 48 + (c.toNat - 48) = c.toNat by omega, u8_of]
    · rw [if_neg hd]
      exact ⟨0, false, rfl, by omega, fun h => by cases h⟩
  · by_cases h48 : bt s 0 = 48
    · refine ⟨0, false, ?_, by omega, fun h => by cases h⟩
      unfold r33 w33
      rw [decide_eq_false (show ¬ ((s.size : Nat) : Int) < 1 by omega), decide_eq_false (show ¬ ((s.size : Nat) : Int) > 9 by omega), blt_t (show 0 < s.size by omega), decide_eq_true (show ((s.size : Nat) : Int) > 1 by omega)]
      have : ((((UInt8.toNat (List.getD (ByteArray.data s).toList 0 0) : Nat) : Int) : Int) == 48) = true := by
        show (((bt s 0 : Nat) : Int) == 48) = true
        rw [h48]; rfl
      rw [this]; rfl
    · have h48' : ((((UInt8.toNat (List.getD (ByteArray.data s).toList 0 0) : Nat) : Int) : Int) == 48) = false := by
        show (((bt s 0 : Nat) : Int) == 48) = false
        exact beq_eq_false_iff_ne.2 (by omega)
      have e := step33 (s := s) (i := 0) (a := 0) (m := 999 + s.size) (by omega) (by omega) (by decide)
      have e0 : r33l0 (1000 + s.size) s 0 0 = if 48 ≤ bt s 0 ∧ bt s 0 ≤ 57 then r33l0 (999 + s.size) s ((0 * 10 + (bt s 0 - 48) : Nat) : Int) ((0 + 1 : Nat) : Int) else (0, ((0 : Nat) : Int), 0) := by
        rw [show 1000 + s.size = 999 + s.size + 1 by omega]; exact e
      have hp : 10 ^ s.size ≤ 10 ^ 9 := Nat.pow_le_pow_right (by omega) (by omega)
      have hp' : (10 : Nat) ^ 9 = 1000000000 := by decide
      have key : (∃ q, r33l0 (1000 + s.size) s 0 0 = (0, q, 0)) ∨ ∃ v : Nat, r33l0 (1000 + s.size) s 0 0 = (1, 0, (v : Int)) ∧ 10 ≤ v ∧ v < 1000000000 := by
        rw [e0]
        by_cases hd : 48 ≤ bt s 0 ∧ bt s 0 ≤ 57
        · rw [if_pos hd]
          rcases num_loop (s := s) (by omega) (s.size - 1) 1 (0 * 10 + (bt s 0 - 48)) (999 + s.size) (by omega) (by omega) (by omega) with g | ⟨v, g1, g2, g3⟩
          · exact .inl g
          · refine .inr ⟨v, g1, ?_, by omega⟩
            have hk : 10 ^ 1 ≤ 10 ^ (s.size - 1) := Nat.pow_le_pow_right (by omega) (by omega)
            have : 10 ^ (s.size - 1) * 1 ≤ 10 ^ (s.size - 1) * (0 * 10 + (bt s 0 - 48)) := Nat.mul_le_mul_left _ (by omega)
            omega
        · rw [if_neg hd]; exact .inl ⟨_, rfl⟩
      unfold r33 w33
      rw [decide_eq_false (show ¬ ((s.size : Nat) : Int) < 1 by omega), decide_eq_false (show ¬ ((s.size : Nat) : Int) > 9 by omega), blt_t (show 0 < s.size by omega), h48']
      rcases key with ⟨q, g⟩ | ⟨v, g1, g2, g3⟩
      · rw [g]; exact ⟨0, false, rfl, by omega, fun h => by cases h⟩
      · rw [g1]; exact ⟨v, true, rfl, g3, fun _ h => by omega⟩
theorem dec_all : ∀ d : Fin 6, 48 ≤ (UInt8.ofNat (48 + d.val)).toNat ∧ (UInt8.ofNat (48 + d.val)).toNat = 48 + d.val := by decide +kernel
theorem number_dec {n : Nat} (h : n ≤ 5) : r33 (mkB (decL n)) = (0, (n : Int), true) := by
  have e : (UInt8.ofNat (48 + n)).toNat = 48 + n := (dec_all ⟨n, by omega⟩).2
  unfold decL
  rw [num_one, e, if_pos (by omega), show 48 + n - 48 = n by omega]
/-! ### the program's -/
theorem p_all : ∀ d : Fin 6, pInt (mkB (decL d.val)) = (d.val : Int) ∧ pOk (mkB (decL d.val)) = true := by decide +kernel
theorem p_dec {n : Nat} (h : n ≤ 5) : pInt (mkB (decL n)) = (n : Int) ∧ pOk (mkB (decL n)) = true := p_all ⟨n, by omega⟩
theorem dig_all : ∀ d : Fin 6, Lib.decDigits d.val = decL d.val := by decide +kernel
theorem dig_dec {n : Nat} (h : n ≤ 5) : digB (n : Int) = mkB (decL n) := by
  unfold digB
  rw [Int.toNat_natCast, dig_all ⟨n, by omega⟩]; rfl
theorem dash_all : ∀ d : Fin 6, (mkB (decL d.val)).data.toList = DASH.data.toList → False := by decide +kernel
theorem p_range {s : ByteArray} (h : pOk s = true) : -9223372036854775808 ≤ pInt s ∧ pInt s ≤ 9223372036854775807 := by
  unfold pOk at h
  unfold pInt
  rcases hp : Lib.parseIntB 64 s.data.toList with v | _ | _
  rotate_left
  · rw [hp] at h; cases h
  · rw [hp] at h; cases h
  · show -9223372036854775808 ≤ v ∧ v ≤ 9223372036854775807
    unfold Lib.parseIntB at hp
    split at hp
    · cases hp
    · rename_i c r hl
      simp only at hp
      split at hp
      · cases hp
      · cases hp
      · rename_i u hu
        split at hp
        · cases hp
        · split at hp
          · cases hp
          · cases hp
            rename_i q1 q2
            have e : (2 : Nat) ^ (64 - 1) = 9223372036854775808 := by decide
            rw [e] at q1 q2
            split
            · rename_i hn
              have : u ≤ 9223372036854775808 := by
                apply Classical.byContradiction; intro hc; exact q2 ⟨hn, by omega⟩
              omega
            · rename_i hn
              have : u < 9223372036854775808 := by
                apply Classical.byContradiction; intro hc; exact q1 ⟨hn, by omega⟩
              omega
end Go.Proofs.YtffpnkkhcgjmfaaGreatDoor
