/- Whole numbers of a stove. -/
import Derived.Test.YtbmagccjcccnaaaGreatDoorA28
import Derived.Test.YtbmagccjcccnaaaGreatDoorPrt3
import Derived.Test.YtbmagccjcccnaaaGreatDoorA42
namespace Go.Proofs.YtbmagccjcccnaaaGreatDoor
open Go.Ab
open Go.Lib (decDigits)

/-! ### the reference's whole numbers -/
def bt (s : ByteArray) (i : Nat) : Nat := (List.getD s.data.toList i 0).toNat
theorem bt_lt (s : ByteArray) (i : Nat) : bt s i < 256 := UInt8.toNat_lt _
theorem step97 {s : ByteArray} {i a m : Nat} (hi : i < s.size) (h9 : s.size ≤ 9) (ha : a < 10 ^ i) : r97l0 (m + 1) s (a : Int) (i : Int) = if 48 ≤ bt s i ∧ bt s i ≤ 57 then r97l0 m s ((a * 10 + (bt s i - 48) : Nat) : Int) ((i + 1 : Nat) : Int) else (0, (a : Int), 0) := by
  have hp : 10 ^ i ≤ 10 ^ 8 := Nat.pow_le_pow_right (by omega) (by omega)
  have hp' : (10 : Nat) ^ 8 = 100000000 := by decide
  have hb := bt_lt s i
  show b97l0 (r97l0 m) _ _ _ = _
  unfold b97l0
  rw [dlt_t hi, dle0, Int.toNat_natCast, blt_t hi, wrap_succ (by omega)]
  show cond true (cond (true && true) (cond (decide (((bt s i : Nat) : Int) < 48)) _ (cond (decide (((bt s i : Nat) : Int) > 57)) _ (r97l0 m s (IntKind.i64.wrap (IntKind.i64.wrap ((a : Int) * 10) + IntKind.i64.wrap (IntKind.u8.wrap (((bt s i : Nat) : Int) - 48)))) _))) _) _ = _
  by_cases h1 : bt s i < 48
  · rw [decide_eq_true (by omega), if_neg (by omega)]; rfl
  · rw [decide_eq_false (by omega)]
    by_cases h2 : bt s i > 57
    · rw [decide_eq_true (by omega), if_neg (by omega)]; rfl
    · rw [decide_eq_false (by omega), if_pos (by omega), wrap_u8 (by omega) (by omega), wrap_i64 (n := ((bt s i : Nat) : Int) - 48) (by omega) (by omega), wrap_i64 (n := (a : Int) * 10) (by omega) (by omega), wrap_i64 (by omega) (by omega)]
      rw [show (a : Int) * 10 + (((bt s i : Nat) : Int) - 48) = ((a * 10 + (bt s i - 48) : Nat) : Int) by omega]
      rfl
theorem end97 {s : ByteArray} {a m : Nat} : r97l0 (m + 1) s (a : Int) (s.size : Int) = (1, 0, (a : Int)) := by
  show b97l0 (r97l0 m) _ _ _ = _
  unfold b97l0
  rw [dlt_f (Nat.lt_irrefl _)]; rfl
theorem num_loop {s : ByteArray} (h9 : s.size ≤ 9) : ∀ (k i a fuel : Nat), i + k = s.size → k < fuel → a < 10 ^ i →
    ((∀ c ∈ s.data.toList.drop i, isDg c) ∧ r97l0 fuel s (a : Int) (i : Int) = (1, 0, ((dv a (s.data.toList.drop i) : Nat) : Int)) ∧ dv a (s.data.toList.drop i) < 10 ^ s.size) ∨
    ((¬ ∀ c ∈ s.data.toList.drop i, isDg c) ∧ ∃ q, r97l0 fuel s (a : Int) (i : Int) = (0, q, 0)) := by
  have hsz := size_eq s
  intro k
  induction k with
  | zero =>
    intro i a fuel h hf ha
    obtain ⟨m, rfl⟩ : ∃ m, fuel = m + 1 := ⟨fuel - 1, by omega⟩
    obtain rfl : i = s.size := by omega
    have hd : s.data.toList.drop s.size = [] := List.drop_eq_nil_of_le (by omega)
    rw [hd, dv_nil]
    exact .inl ⟨fun c hc => (by cases hc), end97, ha⟩
  | succ k ih =>
    intro i a fuel h hf ha
    obtain ⟨m, rfl⟩ : ∃ m, fuel = m + 1 := ⟨fuel - 1, by omega⟩
    have hlt : i < s.data.toList.length := by omega
    have hd : s.data.toList.drop i = s.data.toList[i] :: s.data.toList.drop (i + 1) := List.drop_eq_getElem_cons hlt
    have hb : bt s i = (s.data.toList[i]).toNat := by unfold bt; rw [List.getD_eq_getElem?_getD, List.getElem?_eq_getElem hlt]; rfl
    rw [step97 (by omega) h9 ha, hd, dv_cons, ← hb]
    by_cases hdg : 48 ≤ bt s i ∧ bt s i ≤ 57
    · rw [if_pos hdg]
      rcases ih (i + 1) (a * 10 + (bt s i - 48)) m (by omega) (by omega) (by rw [Nat.pow_succ]; omega) with ⟨g1, g2, g3⟩ | ⟨g1, g2⟩
      · refine .inl ⟨fun c hc => ?_, g2, g3⟩
        rcases List.mem_cons.1 hc with rfl | hc
        · rw [hb] at hdg; exact hdg
        · exact g1 c hc
      · exact .inr ⟨fun hall => g1 fun c hc => hall c (List.mem_cons_of_mem _ hc), g2⟩
    · rw [if_neg hdg]
      refine .inr ⟨fun hall => ?_, _, rfl⟩
      have := hall _ (List.mem_cons_self ..)
      rw [hb] at hdg
      exact hdg this
/-- which texts are numerals for the reference -/
def canon (l : List UInt8) : Prop := 1 ≤ l.length ∧ l.length ≤ 9 ∧ (∀ c ∈ l, isDg c) ∧ (l.length = 1 ∨ l.head? ≠ some 48)
theorem number_cases (s : ByteArray) : (canon s.data.toList ∧ r97 s = (0, ((dv 0 s.data.toList : Nat) : Int), true) ∧ dv 0 s.data.toList < 1000000000) ∨ (¬ canon s.data.toList ∧ ∃ v : Nat, r97 s = (0, (v : Int), false) ∧ v < 1000000000) := by
  have hsz := size_eq s
  by_cases h0 : s.size < 1
  · refine .inr ⟨fun h => by have := h.1; omega, 0, ?_, by omega⟩
    unfold r97 w97
    rw [decide_eq_true (show ((s.size : Nat) : Int) < 1 by omega)]; rfl
  by_cases h9 : s.size > 9
  · refine .inr ⟨fun h => by have := h.2.1; omega, 0, ?_, by omega⟩
    unfold r97 w97
    rw [decide_eq_false (show ¬ ((s.size : Nat) : Int) < 1 by omega), decide_eq_true (show ((s.size : Nat) : Int) > 9 by omega)]; rfl
  have hloop := num_loop (s := s) (by omega) s.size 0 0 (1000 + s.size) (by omega) (by omega) (by decide)
  rw [List.drop_zero] at hloop
  have hp : 10 ^ s.size ≤ 10 ^ 9 := Nat.pow_le_pow_right (by omega) (by omega)
  have hp' : (10 : Nat) ^ 9 = 1000000000 := by decide
  have hhead : s.data.toList.head? = some 48 ↔ bt s 0 = 48 := by
    cases hl : s.data.toList with
    | nil => exfalso; rw [hl, List.length_nil] at hsz; omega
    | cons c r =>
      unfold bt
      rw [hl, List.head?_cons]
      show some c = some 48 ↔ c.toNat = 48
      constructor
      · intro e; rw [Option.some.inj e]; rfl
      · intro e; congr 1; exact UInt8.toNat_inj.1 e
  unfold r97 w97
  rw [decide_eq_false (show ¬ ((s.size : Nat) : Int) < 1 by omega), decide_eq_false (show ¬ ((s.size : Nat) : Int) > 9 by omega), blt_t (show 0 < s.size by omega)]
  by_cases h48 : bt s 0 = 48
  · have e48 : ((((UInt8.toNat (List.getD (ByteArray.data s).toList 0 0) : Nat) : Int) : Int) == 48) = true := by
      show (((bt s 0 : Nat) : Int) == 48) = true
      rw [h48]; rfl
    rw [e48]
    by_cases h1 : s.size > 1
    · rw [decide_eq_true (show ((s.size : Nat) : Int) > 1 by omega)]
      refine .inr ⟨fun h => ?_, 0, rfl, by omega⟩
      rcases h.2.2.2 with g | g
      · omega
      · exact g (hhead.2 h48)
    · rw [decide_eq_false (show ¬ ((s.size : Nat) : Int) > 1 by omega)]
      rcases hloop with ⟨g1, g2, g3⟩ | ⟨g1, q, g2⟩
      · have g2' : r97l0 (1000 + s.size) s 0 0 = _ := g2
        rw [g2']
        exact .inl ⟨⟨by omega, by omega, g1, .inl (by omega)⟩, rfl, by omega⟩
      · have g2' : r97l0 (1000 + s.size) s 0 0 = _ := g2
        rw [g2']
        exact .inr ⟨fun h => g1 h.2.2.1, 0, rfl, by omega⟩
  · have e48 : ((((UInt8.toNat (List.getD (ByteArray.data s).toList 0 0) : Nat) : Int) : Int) == 48) = false := by
      show (((bt s 0 : Nat) : Int) == 48) = false
      exact beq_eq_false_iff_ne.2 (by omega)
    rw [e48]
    rcases hloop with ⟨g1, g2, g3⟩ | ⟨g1, q, g2⟩
    · have g2' : r97l0 (1000 + s.size) s 0 0 = _ := g2
      rw [g2']
      exact .inl ⟨⟨by omega, by omega, g1, .inr fun e => h48 (hhead.1 e)⟩, rfl, by omega⟩
    · have g2' : r97l0 (1000 + s.size) s 0 0 = _ := g2
      rw [g2']
      exact .inr ⟨fun h => g1 h.2.2.1, 0, rfl, by omega⟩
theorem number_spec (s : ByteArray) : ∃ (v : Nat) (b : Bool), r97 s = (0, (v : Int), b) ∧ v < 1000000000 ∧ (b = true → s = mkB (decDigits v)) := by
  rcases number_cases s with ⟨g1, g2, g3⟩ | ⟨_, v, g2, g3⟩
  · refine ⟨_, true, g2, g3, fun _ => ?_⟩
    rw [dec_of (fun e => by have := g1.1; rw [e] at this; simp at this) g1.2.2.1 g1.2.2.2]
    exact (mkB_of s).symm
  · exact ⟨v, false, g2, g3, fun h => by cases h⟩
theorem number_dec {n : Nat} (h : n ≤ 1000000) : r97 (mkB (decDigits n)) = (0, (n : Int), true) := by
  have hl := dec_len 6 n (by omega)
  have hne := dec_ne n
  rcases number_cases (mkB (decDigits n)) with ⟨_, g2, _⟩ | ⟨g1, _⟩
  · rw [g2, mkB_data, dv_dec]
  · exfalso
    apply g1
    rw [mkB_data]
    refine ⟨List.length_pos_iff.2 hne, by omega, dec_dg n, ?_⟩
    by_cases hn : 1 ≤ n
    · exact .inr (dec_head hn)
    · left
      rw [dec_small (by omega)]; rfl
end Go.Proofs.YtbmagccjcccnaaaGreatDoor
namespace Go.Proofs.YtbmagccjcccnaaaGreatDoor
open Go.Ab

abbrev Sh18 : List CT := [.fl .f32, .fl .f32, .fl .f32, .fl .f32, .fl .f32, .fl .f32, .fl .f32, .fl .f32, .fl .f32, .fl .f32, .fl .f32, .fl .f32, .fl .f32, .fl .f32, .fl .f32, .fl .f32, .fl .f32, .fl .f32]
@[reducible] def fc (t : List (List Int)) (i j : Nat) : Nat := Int.toNat ((t.getD i []).getD j 0)
theorem fc_lt {t : List (List Int)} (h : RowsOk Sh18 t) {i j : Nat} (hi : i < t.length) (hj : Sh18[j]? = some (.fl .f32)) : fc t i j < 4294967296 := CTok.lt32 ((h.get hi).get hj)
/-- a row that is a valid log -/
noncomputable def okR (r : List Int) : Bool := r14 (Int.toNat (r.getD 0 0)) (Int.toNat (r.getD 1 0)) (Int.toNat (r.getD 2 0)) (Int.toNat (r.getD 3 0)) (Int.toNat (r.getD 4 0)) (Int.toNat (r.getD 5 0)) (Int.toNat (r.getD 6 0)) (Int.toNat (r.getD 7 0)) (Int.toNat (r.getD 8 0)) (Int.toNat (r.getD 9 0)) (Int.toNat (r.getD 10 0)) (Int.toNat (r.getD 11 0)) (Int.toNat (r.getD 12 0)) (Int.toNat (r.getD 13 0)) (Int.toNat (r.getD 14 0)) (Int.toNat (r.getD 15 0)) (Int.toNat (r.getD 16 0)) (Int.toNat (r.getD 17 0))
theorem woodS {t : List (List Int)} (h : RowsOk Sh18 t) {i : Nat} (hi : i < t.length) : r61b i t = (0, okR (t.getD i [])) := by
  have e := valid_eq (fc_lt h (j := 0) hi rfl) (fc_lt h (j := 1) hi rfl) (fc_lt h (j := 2) hi rfl) (fc_lt h (j := 3) hi rfl) (fc_lt h (j := 4) hi rfl) (fc_lt h (j := 5) hi rfl) (fc_lt h (j := 6) hi rfl) (fc_lt h (j := 7) hi rfl) (fc_lt h (j := 8) hi rfl) (fc_lt h (j := 9) hi rfl) (fc_lt h (j := 10) hi rfl) (fc_lt h (j := 11) hi rfl) (fc_lt h (j := 12) hi rfl) (fc_lt h (j := 13) hi rfl) (fc_lt h (j := 14) hi rfl) (fc_lt h (j := 15) hi rfl) (fc_lt h (j := 16) hi rfl) (fc_lt h (j := 17) hi rfl)
  have h1 : r61b i t = w61 (fc t i 0) (fc t i 1) (fc t i 2) (fc t i 3) (fc t i 4) (fc t i 5) (fc t i 6) (fc t i 7) (fc t i 8) (fc t i 9) (fc t i 10) (fc t i 11) (fc t i 12) (fc t i 13) (fc t i 14) (fc t i 15) (fc t i 16) (fc t i 17) (fun p => ((0 : Nat), p)) := by
    unfold r61b w61
    rw [blt_t hi]; rfl
  exact (h1.trans (p61 (fc t i 0) (fc t i 1) (fc t i 2) (fc t i 3) (fc t i 4) (fc t i 5) (fc t i 6) (fc t i 7) (fc t i 8) (fc t i 9) (fc t i 10) (fc t i 11) (fc t i 12) (fc t i 13) (fc t i 14) (fc t i 15) (fc t i 16) (fc t i 17) (fun p => ((0 : Nat), p)))).trans (congrArg (fun b => ((0 : Nat), b)) e)
theorem loopS {b d u : Nat} {st a : Int} {t : List (List Int)} (h : RowsOk Sh18 t) (hl : t.length ≤ 1048576) {fuel : Nat} (hf : t.length < fuel) : r100l0 fuel 0 b d st a u t = cond (allN t.length fun i => okR (t.getD i [])) 1 0 := by
  refine all_loop (n := t.length) (p := fun i => okR (t.getD i [])) (yes := 1) (no := 0) (G := fun m i => r100l0 m i b d st a u t) ?_ ?_ hf
  · intro m
    show b100l0 (r100l0 m) _ _ _ _ _ _ _ = _
    unfold b100l0 w100l0
    rw [dlt_f (Nat.lt_irrefl _)]; rfl
  · intro m i hi
    show b100l0 (r100l0 m) _ _ _ _ _ _ _ = _
    unfold b100l0 w100l0
    rw [dlt_t hi, dle0, Int.toNat_natCast, blt_t hi, wrap_succ (by omega), woodS h hi]
    cases okR (t.getD i []) <;> rfl
theorem loopI {b d u : Nat} {st a : Int} {t : List (List Int)} (hl : t.length ≤ 1048576) {fuel : Nat} (hf : t.length < fuel) : r72l0 fuel ((t.length : Nat) : Int) 0 b d st a u t = cond (allN t.length fun i => okR (t.getD i [])) 1 0 := by
  refine all_loop (n := t.length) (p := fun i => okR (t.getD i [])) (yes := 1) (no := 0) (G := fun m i => r72l0 m ((t.length : Nat) : Int) i b d st a u t) ?_ ?_ hf
  · intro m
    show b72l0 (r72l0 m) _ _ _ _ _ _ _ _ = _
    unfold b72l0
    rw [dlt_f (Nat.lt_irrefl _)]; rfl
  · intro m i hi
    show b72l0 (r72l0 m) _ _ _ _ _ _ _ _ = _
    unfold b72l0 okR
    rw [dlt_t hi, dle0, Int.toNat_natCast, blt_t hi, wrap_succ (by omega)]
    cases r14 (fc t i 0) (fc t i 1) (fc t i 2) (fc t i 3) (fc t i 4) (fc t i 5) (fc t i 6) (fc t i 7) (fc t i 8) (fc t i 9) (fc t i 10) (fc t i 11) (fc t i 12) (fc t i 13) (fc t i 14) (fc t i 15) (fc t i 16) (fc t i 17) <;> rfl
/-- what else is asked of a stove -/
noncomputable def sc (b d : Nat) (st a : Int) (u : Nat) : Bool := r53 b 3262119936 1153138688 && (r17 d && (decide (st ≥ 0) && (decide (st ≤ 3) && (decide (a ≥ 0) && (decide (a ≤ 1000000) && (r19 u && flt .f32 u 1065353216))))))
theorem share_eq (a : Nat) (h : a < 4294967296) : r55 a = r17 a := by
  unfold r55 w55 r17 w17
  rw [(amount_eq a h).1, (amount_eq a h).2]
theorem less_one {u : Nat} (h : u < 2139095040) : (fgt .f32 u 1065353216 || feq .f32 u 1065353216) = !(flt .f32 u 1065353216) := by
  have hn : isN .f32 u = false := by rw [isN32, decide_eq_false_iff_not]; omega
  have hm : isN .f32 1065353216 = false := by decide
  rw [fgt_key .f32 u _ hn hm, flt_key .f32 u _ hn hm, feq_key .f32 u _ hn hm]
  generalize key FloatKind.f32.format u = x
  generalize key FloatKind.f32.format 1065353216 = y
  by_cases h1 : x < y
  · have g2 : ¬ y < x := by omega
    have g3 : ¬ x = y := by omega
    simp [h1, g2, g3]
  · by_cases h2 : x = y
    · subst h2; simp
    · have : y < x := by omega
      simp [h1, h2, this]
theorem validI0 (b d : Nat) (st a : Int) (u : Nat) : r72b b d st a u = sc b d st a u := by
  unfold r72b w72b sc
  cases r53 b 3262119936 1153138688 <;> cases r17 d <;> cases decide (st ≥ 0) <;> cases decide (st ≤ 3) <;> cases decide (a ≥ 0) <;> cases decide (a ≤ 1000000) <;> cases r19 u <;> rfl
theorem validS0 {b d u : Nat} {st a : Int} (hd : d < 4294967296) (hu : u < 4294967296) (hs : -1 ≤ st ∧ st ≤ 3) : r100b b d st a u = sc b d st a u := by
  unfold r100b w100b sc
  rw [share_eq d hd, (amount_eq u hu).1, (amount_eq u hu).2, wrap_i64 (by omega) (by omega)]
  unfold r53 w53 r115 w115
  by_cases h : u < 2139095040
  · rw [less_one h, decide_eq_true h]
    cases (fgt .f32 b 3262119936 || feq .f32 b 3262119936) <;> cases (flt .f32 b 1153138688 || feq .f32 b 1153138688) <;> cases r17 d <;> cases decide (st ≥ 0) <;> cases decide (st ≤ 3) <;> cases decide (a ≥ 0) <;> cases decide (a ≤ 1000000) <;> cases flt .f32 u 1065353216 <;> rfl
  · rw [decide_eq_false h]
    cases (fgt .f32 b 3262119936 || feq .f32 b 3262119936) <;> cases (flt .f32 b 1153138688 || feq .f32 b 1153138688) <;> cases r17 d <;> cases decide (st ≥ 0) <;> cases decide (st ≤ 3) <;> cases decide (a ≥ 0) <;> cases decide (a ≤ 1000000) <;> rfl
/-- .. and of its logs -/
noncomputable def okL (t : List (List Int)) : Bool := decide (t.length ≤ 6) && allN t.length fun i => okR (t.getD i [])
theorem validI {b d u : Nat} {st a : Int} {t : List (List Int)} (hl : t.length ≤ 1048576) : r72 b d st a u t = (0, okL t && sc b d st a u) := by
  unfold r72 w72 okL
  rw [loopI hl (by omega)]
  by_cases h6 : t.length ≤ 6
  · rw [decide_eq_false (show ¬ ((t.length : Nat) : Int) > 6 by omega), decide_eq_true h6]
    cases allN t.length fun i => okR (t.getD i []) with
    | false => rfl
    | true =>
      unfold sc
      cases r53 b 3262119936 1153138688 <;> cases r17 d <;> cases decide (st ≥ 0) <;> cases decide (st ≤ 3) <;> cases decide (a ≥ 0) <;> cases decide (a ≤ 1000000) <;> cases r19 u <;> rfl
  · rw [decide_eq_true (show ((t.length : Nat) : Int) > 6 by omega), decide_eq_false h6]; rfl
theorem validS {b d u : Nat} {st a : Int} {t : List (List Int)} (h : RowsOk Sh18 t) (hl : t.length ≤ 1048576) (hd : d < 4294967296) (hu : u < 4294967296) (hs : -1 ≤ st ∧ st ≤ 3) : r100 b d st a u t = (0, okL t && sc b d st a u) := by
  rw [← validS0 (b := b) (a := a) hd hu hs]
  unfold r100 w100 r100b w100b okL
  rw [loopS h hl (by omega)]
  by_cases h6 : t.length ≤ 6
  · rw [decide_eq_false (show ¬ ((t.length : Nat) : Int) > 6 by omega), decide_eq_true h6]
    cases allN t.length fun i => okR (t.getD i []) <;> cases (fgt .f32 b 3262119936 || feq .f32 b 3262119936) <;> cases (flt .f32 b 1153138688 || feq .f32 b 1153138688) <;> cases r55 d <;> cases r115 (IntKind.i64.wrap st) 0 3 <;> cases r115 a 0 1000000 <;> cases r57 u <;> cases (fgt .f32 u 1065353216 || feq .f32 u 1065353216) <;> rfl
  · rw [decide_eq_true (show ((t.length : Nat) : Int) > 6 by omega), decide_eq_false h6]; rfl
/-! ### the names of states -/
abbrev STATES : List ByteArray := [ByteArray.mk #[99, 111, 108, 100], ByteArray.mk #[107, 105, 110, 100, 108, 101, 100], ByteArray.mk #[98, 117, 114, 110, 105, 110, 103], ByteArray.mk #[101, 109, 98, 101, 114, 115]]
def hit (w : ByteArray) (i : Nat) : Bool := (STATES.getD i .empty).toList == w.toList
def pk (w : ByteArray) (s : Int) : Int := cond (hit w 3) 3 (cond (hit w 2) 2 (cond (hit w 1) 1 (cond (hit w 0) 0 s)))
theorem pk_chain (w : ByteArray) (s : Int) : cond (hit w 3) ((3 : Nat) : Int) (cond (hit w 2) ((2 : Nat) : Int) (cond (hit w 1) ((1 : Nat) : Int) (cond (hit w 0) ((0 : Nat) : Int) s))) = pk w s := rfl
theorem wrap8 {i : Nat} (h : i < 4) : IntKind.i8.wrap (i : Int) = (i : Int) := by
  have : i = 0 ∨ i = 1 ∨ i = 2 ∨ i = 3 := by omega
  rcases this with rfl | rfl | rfl | rfl <;> decide
theorem four_loop {G : Nat → Int → Int → Nat × Int} {w : ByteArray} (h : ∀ m i s, i < 4 → G (m + 1) ((i : Nat) : Int) s = G m ((i + 1 : Nat) : Int) (cond (hit w i) (i : Int) s)) (he : ∀ m s, G (m + 1) 4 s = (0, s)) {fuel : Nat} (hf : 5 ≤ fuel) (s : Int) : G fuel 0 s = (0, pk w s) := by
  obtain ⟨m, rfl⟩ : ∃ m, fuel = m + 5 := ⟨fuel - 5, by omega⟩
  have e0 := h (m + 4) 0 s (by omega)
  have e1 := h (m + 3) 1 (cond (hit w 0) ((0 : Nat) : Int) s) (by omega)
  have e2 := h (m + 2) 2 (cond (hit w 1) ((1 : Nat) : Int) (cond (hit w 0) ((0 : Nat) : Int) s)) (by omega)
  have e3 := h (m + 1) 3 (cond (hit w 2) ((2 : Nat) : Int) (cond (hit w 1) ((1 : Nat) : Int) (cond (hit w 0) ((0 : Nat) : Int) s))) (by omega)
  have e4 := he m (cond (hit w 3) ((3 : Nat) : Int) (cond (hit w 2) ((2 : Nat) : Int) (cond (hit w 1) ((1 : Nat) : Int) (cond (hit w 0) ((0 : Nat) : Int) s))))
  exact e0.trans (e1.trans (e2.trans (e3.trans (e4.trans (by rw [pk_chain])))))
theorem pk_range (w : ByteArray) {s : Int} (h : -1 ≤ s ∧ s ≤ 3) : -1 ≤ pk w s ∧ pk w s ≤ 3 := by
  unfold pk
  cases hit w 3 <;> cases hit w 2 <;> cases hit w 1 <;> cases hit w 0 <;> simp only [cond_true, cond_false] <;> omega
end Go.Proofs.YtbmagccjcccnaaaGreatDoor
