/- Texts are cut, numbers read; what is valid. -/
import Derived.Test.YtbmagccjcccnaaaGreatDoorPrt1
namespace Go.Proofs.YtbmagccjcccnaaaGreatDoor
open Go.Ab
theorem take_all' {α : Type} (s : List α) : (s.drop 0).take s.length = s := by simp
/-! ### validity -/
theorem fin_spec (d : Nat) : r62 d = decide (d % 2147483648 < 2139095040) := finite_sub d
theorem fin_impl (d : Nat) : r56 d = decide (d % 2147483648 < 2139095040) := by
  have e : r88 (widen d) 0 = decide (d % 2147483648 = 2139095040) := abs_top d
  unfold r56 w56 r87 w87
  rw [e, feq_self, isN_widen, isN32]
  by_cases h1 : 2139095040 < d % 2147483648
  · have h2 : ¬ (d % 2147483648 < 2139095040) := by omega
    simp [h1, h2]
  · by_cases h2 : d % 2147483648 = 2139095040
    · simp [h2]
    · have h3 : d % 2147483648 < 2139095040 := by omega
      simp [h1, h2, h3]
theorem amount_eq (d : Nat) (h : d < 4294967296) : r19 d = decide (d < 2139095040) ∧ r57 d = decide (d < 2139095040) := by
  unfold r19 r57 w57
  rw [fin_spec, fin_impl]
  by_cases h1 : d % 2147483648 < 2139095040
  · have hn : isN .f32 d = false := by rw [isN32, decide_eq_false_iff_not]; omega
    have z : isN .f32 0 = false := by decide
    rw [decide_eq_true h1]
    rw [fgt_key .f32 d _ hn z, feq_key .f32 d _ hn z, key32 d h, key32 0 (by decide)]
    have e31 : (min (31 : Int).toNat (IntKind.bits .u32)) = 31 := by decide
    have ef : Int.fdiv (d : Int) (2 ^ 31) = ((d / 2147483648 : Nat) : Int) := by
      rw [Int.fdiv_eq_ediv_of_nonneg _ (by decide)]; rfl
    rw [e31, ef]
    by_cases h2 : 2147483648 ≤ d
    · have g1 : ¬ d < 2139095040 := by omega
      have g2 : d / 2147483648 = 1 := by omega
      have g3 : ((d : Int) == 0) = false := by rw [beq_eq_false_iff_ne]; omega
      have g4 : ¬ ((d : Int) < 2147483648) := by omega
      simp only [if_pos h2, g2]
      simp [g1, g3, g4, hn]
    · have g1 : d < 2139095040 := by omega
      have g2 : d / 2147483648 = 0 := by omega
      simp only [if_neg h2, g2]
      by_cases h3 : d = 0
      · subst h3; simp [hn]
      · have g5 : 0 < d := by omega
        simp [g1, g5]
  · have g1 : ¬ d < 2139095040 := by omega
    rw [decide_eq_false h1, decide_eq_false g1]
    exact ⟨rfl, rfl⟩
theorem upto_eq {β : Type} (d m : Nat) (h : d < 4294967296) (hm : isN .f32 m = false) (F R : β) : cond (!(r57 d)) F (cond (fgt .f32 d m) F R) = cond (!(r52 d m)) F R := by
  unfold r52 w52
  rw [(amount_eq d h).1, (amount_eq d h).2]
  by_cases h1 : d < 2139095040
  · have hn : isN .f32 d = false := by rw [isN32, decide_eq_false_iff_not]; omega
    rw [decide_eq_true h1, fgt_key .f32 d m hn hm, flt_key .f32 d m hn hm, feq_key .f32 d m hn hm]
    generalize key FloatKind.f32.format d = x
    generalize key FloatKind.f32.format m = y
    rcases Int.lt_trichotomy x y with g | g | g
    · have g2 : ¬ y < x := by omega
      simp [g, g2]
    · subst g; simp
    · have g2 : ¬ x < y := by omega
      have g3 : ¬ x = y := by omega
      simp [g, g2, g3]
  · rw [decide_eq_false h1]; rfl
theorem within_eq {β : Type} (d : Nat) (F R : β) : cond (fgt .f32 d 3262119936 || feq .f32 d 3262119936) (cond (!(flt .f32 d 1153138688 || feq .f32 d 1153138688)) F R) F = cond (!(r53 d 3262119936 1153138688)) F R := by
  unfold r53 w53
  cases (fgt .f32 d 3262119936 || feq .f32 d 3262119936) <;> cases (flt .f32 d 1153138688 || feq .f32 d 1153138688) <;> rfl
theorem valid_eq {w0 w1 w2 w3 w4 w5 h0 h1 h2 h3 h4 h5 f0 f1 f2 f3 f4 f5 : Nat} (bw0 : w0 < 4294967296) (bw1 : w1 < 4294967296) (bw2 : w2 < 4294967296) (bw3 : w3 < 4294967296) (bw4 : w4 < 4294967296) (bw5 : w5 < 4294967296) (bh0 : h0 < 4294967296) (bh1 : h1 < 4294967296) (bh2 : h2 < 4294967296) (bh3 : h3 < 4294967296) (bh4 : h4 < 4294967296) (bh5 : h5 < 4294967296) (bf0 : f0 < 4294967296) (bf1 : f1 < 4294967296) (bf2 : f2 < 4294967296) (bf3 : f3 < 4294967296) (bf4 : f4 < 4294967296) (bf5 : f5 < 4294967296) : r61 w0 w1 w2 w3 w4 w5 h0 h1 h2 h3 h4 h5 f0 f1 f2 f3 f4 f5 = r14 w0 w1 w2 w3 w4 w5 h0 h1 h2 h3 h4 h5 f0 f1 f2 f3 f4 f5 := by
  unfold r61 w61 r14 w14
  rw [upto_eq w0 1092616192 bw0 (by decide), upto_eq f0 1092616192 bf0 (by decide), within_eq h0, upto_eq w1 1092616192 bw1 (by decide), upto_eq f1 1092616192 bf1 (by decide), within_eq h1, upto_eq w2 1092616192 bw2 (by decide), upto_eq f2 1092616192 bf2 (by decide), within_eq h2, upto_eq w3 1092616192 bw3 (by decide), upto_eq f3 1092616192 bf3 (by decide), within_eq h3, upto_eq w4 1092616192 bw4 (by decide), upto_eq f4 1092616192 bf4 (by decide), within_eq h4, upto_eq w5 1092616192 bw5 (by decide), upto_eq f5 1092616192 bf5 (by decide), within_eq h5]
/-! ### the reference's cut -/
theorem extract_data (s : ByteArray) (a b : Nat) : s.extract a b = mkB ((s.data.toList.drop a).take (b - a)) := by
  have : (s.extract a b).data.toList = (s.data.toList.drop a).take (b - a) := by
    rw [ByteArray.data_extract, Array.toList_extract]
  rw [← this]; rfl
theorem beq_u8 (a c : UInt8) : ((((a.toNat : Nat) : Int)) == ((c.toNat : Nat) : Int)) = decide (a = c) := by
  by_cases h : a = c
  · subst h; simp
  · rw [decide_eq_false h, beq_eq_false_iff_ne]
    intro e
    exact h (UInt8.toNat_inj.1 (by omega))
section
variable (s : ByteArray) (c : UInt8) (hs : s.size ≤ 1048576)
include hs
theorem cut_loop : ∀ (k i frm : Nat) (out : List ByteArray) (fuel : Nat), i + k = s.size → k < fuel → frm ≤ i → c ∉ (s.data.toList.drop frm).take (i - frm) → out.length + k ≤ 2000000 →
    (splitL c (s.data.toList.drop frm) = [s.data.toList.drop frm] ∧ r95l0 fuel s (c.toNat : Int) (frm : Int) (i : Int) out = (1, 0, [])) ∨
    (∃ f' : Nat, ∃ L : List (List UInt8), f' ≤ s.size ∧ L ≠ [] ∧ L.length ≤ k ∧ splitL c (s.data.toList.drop frm) = L ++ [s.data.toList.drop f'] ∧ r95l0 fuel s (c.toNat : Int) (frm : Int) (i : Int) out = (0, (f' : Int), out ++ L.map mkB)) := by
  have hsz := size_eq s
  intro k
  induction k with
  | zero =>
    intro i frm out fuel hi hf hfi hc ho
    obtain ⟨m, rfl⟩ : ∃ m, fuel = m + 1 := ⟨fuel - 1, by omega⟩
    left
    refine ⟨?_, ?_⟩
    · refine splitL_no ?_
      rw [List.take_of_length_le (by rw [List.length_drop]; omega)] at hc
      exact hc
    · show b95l0 (r95l0 m) _ _ _ _ _ = _
      unfold b95l0 w95l0
      rw [show decide ((i : Int) < ((s.size : Nat) : Int)) = false from decide_eq_false (by omega)]; rfl
  | succ k ih =>
    intro i frm out fuel hi hf hfi hc ho
    obtain ⟨m, rfl⟩ : ∃ m, fuel = m + 1 := ⟨fuel - 1, by omega⟩
    have hlt : i < s.data.toList.length := by omega
    have hd : s.data.toList.drop i = s.data.toList[i] :: s.data.toList.drop (i + 1) := List.drop_eq_getElem_cons hlt
    have hg : List.getD s.data.toList i 0 = s.data.toList[i] := by rw [List.getD_eq_getElem?_getD, List.getElem?_eq_getElem hlt]; rfl
    have hsplit : s.data.toList.drop frm = (s.data.toList.drop frm).take (i - frm) ++ s.data.toList.drop i := by
      conv => lhs; rw [← List.take_append_drop (i - frm) (s.data.toList.drop frm)]
      rw [List.drop_drop, show frm + (i - frm) = i by omega]
    show (_ ∧ b95l0 (r95l0 m) _ _ _ _ _ = _) ∨ (∃ f' L, _ ∧ _ ∧ _ ∧ _ ∧ b95l0 (r95l0 m) _ _ _ _ _ = _)
    unfold b95l0 w95l0
    simp only [Int.toNat_natCast, hg]
    rw [dlt_t (show i < s.size by omega), dle0, blt_t (show i < s.size by omega), beq_u8, wrap_succ (by omega)]
    by_cases hb : s.data.toList[i] = c
    · rw [decide_eq_true hb, dle0, Nat.ble_eq_true_of_le hfi, Nat.ble_eq_true_of_le (show i ≤ s.size by omega), Nat.ble_eq_true_of_le (show (out.length + 1) * 17 ≤ 140737488355328 by omega), take_all', extract_data]
      have hseg : splitL c (s.data.toList.drop frm) = (s.data.toList.drop frm).take (i - frm) :: splitL c (s.data.toList.drop (i + 1)) := by
        conv => lhs; rw [hsplit, hd, hb]
        exact splitL_app hc
      rcases ih (i + 1) (i + 1) (out ++ [mkB ((s.data.toList.drop frm).take (i - frm))]) m (by omega) (by omega) (Nat.le_refl _) (by simp) (by simp; omega) with ⟨e1, e2⟩ | ⟨f', L, g1, g2, g3, g4, e2⟩
      · rw [e2]
        right
        refine ⟨i + 1, [(s.data.toList.drop frm).take (i - frm)], by omega, by simp, by simp, ?_, rfl⟩
        rw [hseg, e1]; rfl
      · rw [e2]
        right
        refine ⟨f', (s.data.toList.drop frm).take (i - frm) :: L, g1, by simp, by simp; omega, ?_, ?_⟩
        · rw [hseg, g4]; rfl
        · show (0, (f' : Int), (out ++ [mkB ((s.data.toList.drop frm).take (i - frm))]) ++ L.map mkB) = _
          rw [List.append_assoc]; rfl
    · rw [decide_eq_false hb]
      have e : (s.data.toList.drop frm).take (i + 1 - frm) = (s.data.toList.drop frm).take (i - frm) ++ [s.data.toList[i]] := by
        rw [show i + 1 - frm = (i - frm) + 1 by omega, List.take_add_one]
        congr 1
        rw [List.getElem?_drop, show frm + (i - frm) = i by omega, List.getElem?_eq_getElem hlt]; rfl
      have hc' : c ∉ (s.data.toList.drop frm).take (i + 1 - frm) := by
        rw [e, List.mem_append, not_or]
        exact ⟨hc, by simpa using fun h => hb h.symm⟩
      rcases ih (i + 1) frm out m (by omega) (by omega) (by omega) hc' (by omega) with ⟨e1, e2⟩ | ⟨f', L, g1, g2, g3, g4, e2⟩
      · exact .inl ⟨e1, e2⟩
      · exact .inr ⟨f', L, g1, g2, by omega, g4, e2⟩
/-- a text is cut -/
theorem cut_eq : (2 ≤ (splB c s).length ∧ r95 s (c.toNat : Int) = (0, splB c s, ByteArray.empty)) ∨ (splB c s = [s] ∧ r95 s (c.toNat : Int) = (1, [], s)) := by
  have hsz := size_eq s
  have hall : s.extract 0 s.size = s := by
    rw [extract_data, List.drop_zero, Nat.sub_zero, size_eq, List.take_length]; rfl
  unfold r95 w95
  rcases cut_loop s c hs s.size 0 0 [] (1000 + 0 + s.size) (by omega) (by omega) (Nat.le_refl _) (by simp) (by simp; omega) with ⟨e1, e2⟩ | ⟨f', L, g1, g2, g3, g4, e2⟩
  · have e2 : r95l0 (1000 + 0 + s.size) s (c.toNat : Int) 0 0 [] = (1, 0, []) := e2
    right
    rw [e2]
    refine ⟨?_, ?_⟩
    · rw [splB_eq, show splitL c s.data.toList = [s.data.toList] from e1]; rfl
    · rw [Nat.ble_eq_true_of_le (Nat.zero_le _), Nat.ble_eq_true_of_le (Nat.le_refl _), hall]; rfl
  · have e2 : r95l0 (1000 + 0 + s.size) s (c.toNat : Int) 0 0 [] = (0, (f' : Int), [] ++ L.map mkB) := e2
    left
    have hs' : splB c s = L.map mkB ++ [mkB (s.data.toList.drop f')] := by
      rw [splB_eq, show splitL c s.data.toList = L ++ [s.data.toList.drop f'] from g4, List.map_append]; rfl
    have hlen : 1 ≤ L.length := List.length_pos_iff.2 g2
    rw [e2]
    refine ⟨by rw [hs']; simp; omega, ?_⟩
    have hx : s.extract f' s.size = mkB (s.data.toList.drop f') := by
      rw [extract_data, List.take_of_length_le (by rw [List.length_drop]; omega)]
    simp only [Int.toNat_natCast, List.nil_append]
    rw [dle0, Nat.ble_eq_true_of_le g1, Nat.ble_eq_true_of_le (Nat.le_refl _), Nat.ble_eq_true_of_le (show ((L.map mkB).length + 1) * 17 ≤ 140737488355328 by rw [List.length_map]; omega), take_all', hx, ← hs']
    rfl
end
/-! ### the reference's numbers -/
def rdB (s : ByteArray) : Option Nat := rdL s.data.toList
def rowsN (T : List ByteArray) : List (List Int) := T.map fun s => [(((rdB s).getD 0 : Nat) : Int)]
def allN' (T : List ByteArray) : Bool := T.all fun s => (rdB s).isSome
theorem read_some {s : ByteArray} {v : Nat} (h : rdL s.data.toList = some v) : r96 s = (0, v, true) := by
  rw [read_spec, h]; rfl
theorem read_none {s : ByteArray} (h : rdL s.data.toList = none) : ∃ v, r96 s = (0, v, false) := by
  have := read_spec s
  rw [h] at this
  exact ⟨_, this⟩
theorem nums_loop (list : List ByteArray) (off len : Nat) (hl : off + len ≤ list.length) (hn : len ≤ 1000000) : ∀ (k i : Nat) (out : List (List Int)) (fuel : Nat), i + k = len → k < fuel → out.length + k ≤ 2000000 →
    (allN' ((list.drop (off + i)).take k) = true ∧ ((k = 0 ∧ r114l0 fuel off len (i : Int) list out = (3, [], [])) ∨ (0 < k ∧ r114l0 fuel off len (i : Int) list out = (2, [], out ++ rowsN ((list.drop (off + i)).take k))))) ∨
    (allN' ((list.drop (off + i)).take k) = false ∧ ∃ q, r114l0 fuel off len (i : Int) list out = (0, q, []) ∨ r114l0 fuel off len (i : Int) list out = (1, q, [])) := by
  intro k
  induction k with
  | zero =>
    intro i out fuel hi hf ho
    obtain ⟨m, rfl⟩ : ∃ m, fuel = m + 1 := ⟨fuel - 1, by omega⟩
    left
    refine ⟨rfl, .inl ⟨rfl, ?_⟩⟩
    show b114l0 (r114l0 m) _ _ _ _ _ = _
    unfold b114l0 w114l0
    rw [show decide ((i : Int) < ((len : Nat) : Int)) = false from decide_eq_false (by omega)]; rfl
  | succ k ih =>
    intro i out fuel hi hf ho
    obtain ⟨m, rfl⟩ : ∃ m, fuel = m + 1 := ⟨fuel - 1, by omega⟩
    have hlt : off + i < list.length := by omega
    have hd : (list.drop (off + i)).take (k + 1) = list[off + i] :: (list.drop (off + (i + 1))).take k := by
      rw [List.drop_eq_getElem_cons hlt, List.take_succ_cons]; rfl
    have hg : list.getD (off + i) .empty = list[off + i] := by rw [List.getD_eq_getElem?_getD, List.getElem?_eq_getElem hlt]; rfl
    show (_ ∧ ((_ ∧ b114l0 (r114l0 m) _ _ _ _ _ = _) ∨ (_ ∧ b114l0 (r114l0 m) _ _ _ _ _ = _))) ∨ (_ ∧ ∃ q, b114l0 (r114l0 m) _ _ _ _ _ = _ ∨ b114l0 (r114l0 m) _ _ _ _ _ = _)
    unfold b114l0 w114l0
    simp only [Int.toNat_natCast, hg]
    rw [dlt_t (show i < len by omega), dle0, blt_t (show i < len by omega), blt_t hlt, wrap_succ (by omega), hd]
    generalize list[off + i] = x
    cases hr : rdL x.data.toList with
    | none =>
      obtain ⟨v, ev⟩ := read_none hr
      right
      rw [ev]
      exact ⟨by simp [allN', rdB, hr], [], .inl rfl⟩
    | some v =>
      have hrow : rowsN (x :: (list.drop (off + (i + 1))).take k) = [(v : Int)] :: rowsN ((list.drop (off + (i + 1))).take k) := by
        simp [rowsN, rdB, hr]
      have hall : allN' (x :: (list.drop (off + (i + 1))).take k) = allN' ((list.drop (off + (i + 1))).take k) := by
        simp [allN', rdB, hr]
      rw [read_some hr, Nat.ble_eq_true_of_le (show (out.length + 1) * 5 ≤ 140737488355328 by omega), take_all', hall, hrow]
      rcases ih (i + 1) (out ++ [[(v : Int)]]) m (by omega) (by omega) (by simp; omega) with ⟨e0, ⟨rfl, e2⟩ | ⟨g, e2⟩⟩ | ⟨e0, q, e2 | e2⟩
      · rw [e2]
        left
        refine ⟨e0, .inr ⟨by omega, ?_⟩⟩
        rfl
      · rw [e2]
        left
        refine ⟨e0, .inr ⟨by omega, ?_⟩⟩
        show (2, [], (out ++ [[(v : Int)]]) ++ _) = _
        rw [List.append_assoc]; rfl
      · rw [e2]
        right
        exact ⟨e0, _, .inr rfl⟩
      · rw [e2]
        right
        exact ⟨e0, _, .inr rfl⟩
theorem nums_eq (list : List ByteArray) (off len : Nat) (hl : off + len ≤ list.length) (hn : list.length ≤ 1000000) :
    r114 off len list = if allN' ((list.drop off).take len) = true then (0, true, rowsN ((list.drop off).take len)) else (0, false, []) := by
  unfold r114 w114
  rcases nums_loop list off len hl (by omega) len 0 [] (1000 + 0 + list.length) (by omega) (by omega) (by simp; omega) with ⟨e0, ⟨rfl, e2⟩ | ⟨g, e2⟩⟩ | ⟨e0, q, e2 | e2⟩
  · have e2 : r114l0 (1000 + 0 + list.length) off 0 0 list [] = (3, [], []) := e2
    have e0 : allN' ((list.drop off).take 0) = true := e0
    rw [e2, if_pos e0]; rfl
  · have e2 : r114l0 (1000 + 0 + list.length) off len 0 list [] = (2, [], rowsN ((list.drop off).take len)) := e2
    have e0 : allN' ((list.drop off).take len) = true := e0
    rw [e2, if_pos e0]; rfl
  · have e2 : r114l0 (1000 + 0 + list.length) off len 0 list [] = (0, q, []) := e2
    have e0 : allN' ((list.drop off).take len) = false := e0
    rw [e2, e0]; rfl
  · have e2 : r114l0 (1000 + 0 + list.length) off len 0 list [] = (1, q, []) := e2
    have e0 : allN' ((list.drop off).take len) = false := e0
    rw [e2, e0]; rfl
end Go.Proofs.YtbmagccjcccnaaaGreatDoor
