/- Texts are cut, numbers read; what is valid. -/
import Derived.Test.YtffpnkkhcgjmfaaGreatDoorPrm1
namespace Go.Proofs.YtffpnkkhcgjmfaaGreatDoor
open Go.Ab
theorem take_all' {α : Type} (s : List α) : (s.drop 0).take s.length = s := by simp
/-! ### validity -/
theorem fin_spec (d : Nat) : r101 d = decide (d % 2147483648 < 2139095040) := finite_sub d
theorem fin_impl (d : Nat) : r57 d = decide (d % 2147483648 < 2139095040) := by
  have e : r100 (widen d) 0 = decide (d % 2147483648 = 2139095040) := abs_top d
  unfold r57 w57 r99 w99
  rw [e, feq_self, isN_widen, isN32]
  by_cases h1 : 2139095040 < d % 2147483648
  · have h2 : ¬ (d % 2147483648 < 2139095040) := by omega
    simp [h1, h2]
  · by_cases h2 : d % 2147483648 = 2139095040
    · simp [h2]
    · have h3 : d % 2147483648 < 2139095040 := by omega
      simp [h1, h2, h3]
theorem amount_eq (d : Nat) (h : d < 4294967296) : r91 d = decide (d < 2139095040) ∧ r94 d = decide (d < 2139095040) := by
  unfold r91 r94 w94
  rw [fin_spec, fin_impl]
  by_cases h1 : d % 2147483648 < 2139095040
  · have hn : isN .f32 d = false := by rw [isN32, decide_eq_false_iff_not]; omega
    have z : isN .f32 0 = false := by decide
    rw [decide_eq_true h1]
    rw [fgt_key .f32 d _ hn z, feq_key .f32 d _ hn z, key32 d h, key32 0 (by decide)]
    have e31 : (min (31 : Int).toNat (IntKind.bits .u32)) = 31 := by decide
    have ef : Int.fdiv (d : Int) (2 ^ 31) = ((d / 2147483648 : Nat) : Int) := by
      rw [Int.fdiv_eq_ediv_of_nonneg _ (by decide)]; rfl
    rw [e31, ef]
    by_cases h2 : 2147483648 ≤ d
    · have g1 : ¬ d < 2139095040 := by omega
      have g2 : d / 2147483648 = 1 := by omega
      have g3 : ((d : Int) == 0) = false := by rw [beq_eq_false_iff_ne]; omega
      have g4 : ¬ ((d : Int) < 2147483648) := by omega
      simp only [if_pos h2, g2]
      simp [g1, g3, g4, hn]
    · have g1 : d < 2139095040 := by omega
      have g2 : d / 2147483648 = 0 := by omega
      simp only [if_neg h2, g2]
      by_cases h3 : d = 0
      · subst h3; simp [hn]
      · have g5 : 0 < d := by omega
        simp [g1, g5]
  · have g1 : ¬ d < 2139095040 := by omega
    rw [decide_eq_false h1, decide_eq_false g1]
    exact ⟨rfl, rfl⟩
/-! ### the reference's cut -/
theorem extract_data (s : ByteArray) (a b : Nat) : s.extract a b = mkB ((s.data.toList.drop a).take (b - a)) := by
  have : (s.extract a b).data.toList = (s.data.toList.drop a).take (b - a) := by
    rw [ByteArray.data_extract, Array.toList_extract]
  rw [← this]; rfl
theorem beq_u8 (a c : UInt8) : ((((a.toNat : Nat) : Int)) == ((c.toNat : Nat) : Int)) = decide (a = c) := by
  by_cases h : a = c
  · subst h; simp
  · rw [decide_eq_false h, beq_eq_false_iff_ne]
    intro e
    exact h (UInt8.toNat_inj.1 (by omega))
section
variable (s : ByteArray) (c : UInt8) (hs : s.size ≤ 1048576)
include hs
theorem cut_loop : ∀ (k i frm : Nat) (out : List ByteArray) (fuel : Nat), i + k = s.size → k < fuel → frm ≤ i → c ∉ (s.data.toList.drop frm).take (i - frm) → out.length + k ≤ 2000000 →
    (splitL c (s.data.toList.drop frm) = [s.data.toList.drop frm] ∧ r31l0 fuel s (c.toNat : Int) (frm : Int) (i : Int) out = (1, 0, [])) ∨
    (∃ f' : Nat, ∃ L : List (List UInt8), f' ≤ s.size ∧ L ≠ [] ∧ L.length ≤ k ∧ splitL c (s.data.toList.drop frm) = L ++ [s.data.toList.drop f'] ∧ r31l0 fuel s (c.toNat : Int) (frm : Int) (i : Int) out = (0, (f' : Int), out ++ L.map mkB)) := by
  have hsz := size_eq s
  intro k
  induction k with
  | zero =>
    intro i frm out fuel hi hf hfi hc ho
    obtain ⟨m, rfl⟩ : ∃ m, fuel = m + 1 := ⟨fuel - 1, by omega⟩
    left
    refine ⟨?_, ?_⟩
    · refine splitL_no ?_
      rw [List.take_of_length_le (by rw [List.length_drop]; omega)] at hc
      exact hc
    · show b31l0 (r31l0 m) _ _ _ _ _ = _
      unfold b31l0 w31l0
      rw [show decide ((i : Int) < ((s.size : Nat) : Int)) = false from decide_eq_false (by omega)]; rfl
  | succ k ih =>
    intro i frm out fuel hi hf hfi hc ho
    obtain ⟨m, rfl⟩ : ∃ m, fuel = m + 1 := ⟨fuel - 1, by omega⟩
    have hlt : i < s.data.toList.length := by omega
    have hd : s.data.toList.drop i = s.data.toList[i] :: s.data.toList.drop (i + 1) := List.drop_eq_getElem_cons hlt
    have hg : List.getD s.data.toList i 0 = s.data.toList[i] := by rw [List.getD_eq_getElem?_getD, List.getElem?_eq_getElem hlt]; rfl
    have hsplit : s.data.toList.drop frm = (s.data.toList.drop frm).take (i - frm) ++ s.data.toList.drop i := by
      conv => lhs; rw [← List.take_append_drop (i - frm) (s.data.toList.drop frm)]
      rw [List.drop_drop, show frm + (i - frm) = i by omega]
    show (_ ∧ b31l0 (r31l0 m) _ _ _ _ _ = _) ∨ (∃ f' L, _ ∧ _ ∧ _ ∧ _ ∧ b31l0 (r31l0 m) _ _ _ _ _ = _)
    unfold b31l0 w31l0
    simp only [Int.toNat_natCast, hg]
    rw [dlt_t (show i < s.size by omega), dle0, blt_t (show i < s.size by omega), beq_u8, wrap_succ (by omega)]
    by_cases hb : s.data.toList[i] = c
    · rw [decide_eq_true hb, dle0, Nat.ble_eq_true_of_le hfi, Nat.ble_eq_true_of_le (show i ≤ s.size by omega), Nat.ble_eq_true_of_le (show (out.length + 1) * 17 ≤ 140737488355328 by omega), take_all', extract_data]
      have hseg : splitL c (s.data.toList.drop frm) = (s.data.toList.drop frm).take (i - frm) :: splitL c (s.data.toList.drop (i + 1)) := by
        conv => lhs; rw [hsplit, hd, hb]
        exact splitL_app hc
      rcases ih (i + 1) (i + 1) (out ++ [mkB ((s.data.toList.drop frm).take (i - frm))]) m (by omega) (by omega) (Nat.le_refl _) (by simp) (by simp; omega) with ⟨e1, e2⟩ | ⟨f', L, g1, g2, g3, g4, e2⟩
      · rw [e2]
        right
        refine ⟨i + 1, [(s.data.toList.drop frm).take (i - frm)], by omega, by simp, by simp, ?_, rfl⟩
        rw [hseg, e1]; rfl
      · rw [e2]
        right
        refine ⟨f', (s.data.toList.drop frm).take (i - frm) :: L, g1, by simp, by simp; omega, ?_, ?_⟩
        · rw [hseg, g4]; rfl
        · show (0, (f' : Int), (out ++ [mkB ((s.data.toList.drop frm).take (i - frm))]) ++ L.map mkB) = _
          rw [List.append_assoc]; rfl
    · rw [decide_eq_false hb]
      have e : (s.data.toList.drop frm).take (i + 1 - frm) = (s.data.toList.drop frm).take (i - frm) ++ [s.data.toList[i]] := by
        rw [show i + 1 - frm = (i - frm) + 1 by omega, List.take_add_one]
        congr 1
        rw [List.getElem?_drop, show frm + (i - frm) = i by omega, List.getElem?_eq_getElem hlt]; rfl
      have hc' : c ∉ (s.data.toList.drop frm).take (i + 1 - frm) := by
        rw [e, List.mem_append, not_or]
        exact ⟨hc, by simpa using fun h => hb h.symm⟩
      rcases ih (i + 1) frm out m (by omega) (by omega) (by omega) hc' (by omega) with ⟨e1, e2⟩ | ⟨f', L, g1, g2, g3, g4, e2⟩
      · exact .inl ⟨e1, e2⟩
      · exact .inr ⟨f', L, g1, g2, by omega, g4, e2⟩
/-- a text is cut -/
theorem cut_eq : (2 ≤ (splB c s).length ∧ r31 s (c.toNat : Int) = (0, splB c s, ByteArray.empty)) ∨ (splB c s = [s] ∧ r31 s (c.toNat : Int) = (1, [], s)) := by
  have hsz := size_eq s
  have hall : s.extract 0 s.size = s := by
    rw [extract_data, List.drop_zero, Nat.sub_zero, size_eq, List.take_length]; rfl
  unfold r31 w31
  rcases cut_loop s c hs s.size 0 0 [] (1000 + 0 + s.size) (by omega) (by omega) (Nat.le_refl _) (by simp) (by simp; omega) with ⟨e1, e2⟩ | ⟨f', L, g1, g2, g3, g4, e2⟩
  · have e2 : r31l0 (1000 + 0 + s.size) s (c.toNat : Int) 0 0 [] = (1, 0, []) := e2
    right
    rw [e2]
    refine ⟨?_, ?_⟩
    · rw [splB_eq, show splitL c s.data.toList = [s.data.toList] from e1]; rfl
    · rw [Nat.ble_eq_true_of_le (Nat.zero_le _), Nat.ble_eq_true_of_le (Nat.le_refl _), hall]; rfl
  · have e2 : r31l0 (1000 + 0 + s.size) s (c.toNat : Int) 0 0 [] = (0, (f' : Int), [] ++ L.map mkB) := e2
    left
    have hs' : splB c s = L.map mkB ++ [mkB (s.data.toList.drop f')] := by
      rw [splB_eq, show splitL c s.data.toList = L ++ [s.data.toList.drop f'] from g4, List.map_append]; rfl
    have hlen : 1 ≤ L.length := List.length_pos_iff.2 g2
    rw [e2]
    refine ⟨by rw [hs']; simp; omega, ?_⟩
    have hx : s.extract f' s.size = mkB (s.data.toList.drop f') := by
      rw [extract_data, List.take_of_length_le (by rw [List.length_drop]; omega)]
    simp only [Int.toNat_natCast, List.nil_append]
    rw [dle0, Nat.ble_eq_true_of_le g1, Nat.ble_eq_true_of_le (Nat.le_refl _), Nat.ble_eq_true_of_le (show ((L.map mkB).length + 1) * 17 ≤ 140737488355328 by rw [List.length_map]; omega), take_all', hx, ← hs']
    rfl
end
/-! ### the reference's numbers -/
def rdB (s : ByteArray) : Option Nat := rdL s.data.toList
theorem read_some {s : ByteArray} {v : Nat} (h : rdL s.data.toList = some v) : r78 s = (0, v, true) := by
  rw [read_spec, h]; rfl
theorem read_none {s : ByteArray} (h : rdL s.data.toList = none) : ∃ v, r78 s = (0, v, false) := by
  have := read_spec s
  rw [h] at this
  exact ⟨_, this⟩
end Go.Proofs.YtffpnkkhcgjmfaaGreatDoor
