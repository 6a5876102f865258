/- A valid program: both ways of asking. -/
import Derived.Test.YtffpnkkhcgjmfaaDoorPt4
import Derived.Test.YtffpnkkhcgjmfaaDoorA25
namespace Go.Proofs.YtffpnkkhcgjmfaaDoor
open Go.Ab

abbrev Sh3 : List CT := [.int .i8, .int .i16, .fl .f32]

/-! ### sizes -/
theorem szStrs_loop {l : List ByteArray} (hs : ∀ s ∈ l, s.size ≤ 9223372036854775807) (hl : l.length ≤ 1048576) : ∀ (k i fuel : Nat) (b : Int), i + k = l.length → k < fuel → 0 ≤ b → b ≤ 1048576 →
    (r15l0 fuel b (i : Int) l).1 = 0 ∨ ∃ v, r15l0 fuel b (i : Int) l = (1, 0, v) ∧ 0 ≤ v ∧ v ≤ b := by
  intro k
  induction k with
  | zero =>
    intro i fuel b h hf h0 h1
    obtain ⟨m, rfl⟩ : ∃ m, fuel = m + 1 := ⟨fuel - 1, by omega⟩
    refine .inr ⟨b, ?_, h0, Int.le_refl _⟩
    show b15l0 (r15l0 m) _ _ _ = _
    unfold b15l0
    rw [dlt_f (by omega)]; rfl
  | succ k ih =>
    intro i fuel b h hf h0 h1
    obtain ⟨m, rfl⟩ : ∃ m, fuel = m + 1 := ⟨fuel - 1, by omega⟩
    have hi : i < l.length := by omega
    have hsz : (l.getD i .empty).size ≤ 9223372036854775807 := by
      rw [List.getD_eq_getElem?_getD, List.getElem?_eq_getElem hi]
      exact hs _ (List.getElem_mem hi)
    have e : r15l0 (m + 1) b (i : Int) l = cond (decide (b - ((l.getD i .empty).size : Int) < 0)) (0, b - ((l.getD i .empty).size : Int), 0) (r15l0 m (b - ((l.getD i .empty).size : Int)) ((i + 1 : Nat) : Int) l) := by
      show b15l0 (r15l0 m) _ _ _ = _
      unfold b15l0
      rw [dlt_t hi, dle0, Int.toNat_natCast, blt_t hi, wrap_succ (by omega), wrap_i64 (by omega) (by omega)]
      rfl
    rw [e]
    by_cases hn : b - ((l.getD i .empty).size : Int) < 0
    · rw [decide_eq_true hn]; exact .inl rfl
    · rw [decide_eq_false hn]
      rcases ih (i + 1) m _ (by omega) (by omega) (show 0 ≤ b - ((l.getD i .empty).size : Int) by omega) (by omega) with g | ⟨v, g1, g2, g3⟩
      · exact .inl g
      · exact .inr ⟨v, g1, g2, by omega⟩
theorem szStrs {l : List ByteArray} (hs : ∀ s ∈ l, s.size ≤ 9223372036854775807) (hl : l.length ≤ 9223372036854775807) {b : Int} (h0 : 0 ≤ b) (h1 : b ≤ 1048576) :
    ∃ v, r15 b l = (0, v) ∧ (v = -1 ∨ (0 ≤ v ∧ v ≤ b ∧ (l.length : Int) ≤ b)) := by
  unfold r15 w15
  rw [wrap_i64 (by omega) (by omega)]
  by_cases hn : b - (l.length : Int) < 0
  · rw [decide_eq_true hn]; exact ⟨-1, rfl, .inl rfl⟩
  · rw [decide_eq_false hn, cond_false]
    rcases szStrs_loop hs (by omega) l.length 0 (1000 + l.length) (b - (l.length : Int)) (by omega) (by omega) (by omega) (by omega) with g | ⟨v, g1, g2, g3⟩
    · have g' : (r15l0 (1000 + l.length) (b - (l.length : Int)) 0 l).1 = 0 := g
      rw [g']; exact ⟨-1, rfl, .inl rfl⟩
    · have g' : r15l0 (1000 + l.length) (b - (l.length : Int)) 0 l = (1, 0, v) := g1
      rw [g']; exact ⟨v, rfl, .inr ⟨g2, by omega, by omega⟩⟩
theorem szP {l : List ByteArray} {rows : List (List Int)} (hs : ∀ s ∈ l, s.size ≤ 9223372036854775807) (hl : l.length ≤ 9223372036854775807) (hr : rows.length ≤ 9223372036854775807) {b : Int} (h0 : 0 ≤ b) (h1 : b ≤ 1048576) :
    ∃ v, r5 b l rows = (0, v) ∧ (v = -1 ∨ (0 ≤ v ∧ v ≤ b ∧ l.length ≤ 1048576 ∧ rows.length ≤ 1048576)) := by
  obtain ⟨v, e, hv⟩ := szStrs hs hl h0 h1
  unfold r5 w5
  rw [e]
  simp only [show Nat.beq 0 0 = true from rfl, cond_true]
  rcases hv with rfl | ⟨g1, g2, g3⟩
  · exact ⟨-1, rfl, .inl rfl⟩
  · rw [decide_eq_false (by omega), cond_false]
    have e40 : r16 v rows = cond (decide (v - (rows.length : Int) < 0)) (-1) (v - (rows.length : Int)) := by
      unfold r16 w16
      rw [wrap_i64 (by omega) (by omega)]
    rw [e40]
    by_cases hn : v - (rows.length : Int) < 0
    · rw [decide_eq_true hn]; exact ⟨-1, rfl, .inl rfl⟩
    · rw [decide_eq_false hn, cond_false, decide_eq_false hn]
      exact ⟨_, rfl, .inr ⟨by omega, by omega, by omega, by omega⟩⟩

/-! ### copies -/
theorem copyStrs {l : List ByteArray} (hl : l.length ≤ 1048576) : r21 l = (0, l) := by
  have key : ∀ fuel, l.length < fuel → r21l0 fuel 0 l (List.replicate l.length (ByteArray.mk #[])) = (0, l) := by
    intro fuel hf
    refine copy_loop (d := ByteArray.empty) (mk := fun x => (0, x)) (G := fun m x i => r21l0 m i l x) ?_ ?_ (by simp) hf
    · intro m x hx
      show b21l0 (r21l0 m) _ l x = _
      unfold b21l0
      rw [dlt_f (Nat.lt_irrefl _)]; rfl
    · intro m i x hi hx
      show b21l0 (r21l0 m) _ l x = _
      unfold b21l0
      rw [dlt_t hi, dle0, Int.toNat_natCast, blt_t hi, blt_t (by omega), wrap_succ (by omega)]
      rfl
  unfold r21 w21
  rw [key _ (by simp; omega)]
  have c1 : decide ((0 : Int) ≤ ((l.length : Nat) : Int)) = true := dle0 _
  have c2 : decide ((((l.length : Nat) : Int) : Int) ≤ ((l.length : Nat) : Int)) = true := by simp
  have c3 : decide (((16 : Nat) : Int) * ((l.length : Nat) : Int) ≤ 281474976710656) = true := by rw [decide_eq_true_eq]; omega
  have c4 : decide (((l.length : Nat) : Int) ≤ 9223372036854775807) = true := by rw [decide_eq_true_eq]; omega
  rw [c1, c2, c3, c4]; rfl
theorem copyOps {rows : List (List Int)} (h : RowsOk Sh3 rows) (hl : rows.length ≤ 1048576) : r22 rows = (0, rows) := by
  have key : ∀ fuel, rows.length < fuel → r22l0 fuel 0 rows (List.replicate rows.length ([0, 0, 0] : List Int)) = (0, rows) := by
    intro fuel hf
    refine copy_loop (d := []) (mk := fun x => (0, x)) (G := fun m x i => r22l0 m i rows x) ?_ ?_ (by simp) hf
    · intro m x hx
      show b22l0 (r22l0 m) _ rows x = _
      unfold b22l0
      rw [dlt_f (Nat.lt_irrefl _)]; rfl
    · intro m i x hi hx
      show b22l0 (r22l0 m) _ rows x = _
      unfold b22l0
      rw [dlt_t hi, dle0, Int.toNat_natCast, blt_t hi, blt_t (by omega), wrap_succ (by omega)]
      exact congrArg (fun r => r22l0 m _ rows (x.set i r)) (reb_eq (h.get hi))
  unfold r22 w22
  rw [key _ (by simp; omega)]
  have c1 : decide ((0 : Int) ≤ ((rows.length : Nat) : Int)) = true := dle0 _
  have c2 : decide ((((rows.length : Nat) : Int) : Int) ≤ ((rows.length : Nat) : Int)) = true := by simp
  have c3 : decide (((8 : Nat) : Int) * ((rows.length : Nat) : Int) ≤ 281474976710656) = true := by rw [decide_eq_true_eq]; omega
  have c4 : decide (((rows.length : Nat) : Int) ≤ 9223372036854775807) = true := by rw [decide_eq_true_eq]; omega
  rw [c1, c2, c3, c4]; rfl
theorem copyP {l : List ByteArray} {rows : List (List Int)} (h : RowsOk Sh3 rows) (hl : l.length ≤ 1048576) (hr : rows.length ≤ 1048576) : r7 l rows = (0, l, rows) := by
  unfold r7 w7
  rw [copyStrs hl, copyOps h hr]; rfl

theorem bne_len {a b : Nat} : (((a : Nat) : Int) != ((b : Nat) : Int)) = !decide (b = a) := by
  by_cases h : b = a
  · subst h; simp
  · rw [decide_eq_false h]
    simp only [bne, Bool.not_false, Bool.not_eq_true', beq_eq_false_iff_ne]
    omega
/-! ### itself -/
section
variable {l : List ByteArray} {o : List (List Int)}
theorem float_self (a : Nat) : r74 a a = true := by
  unfold r74
  cases h : feq .f64 a a <;> cases feq .f64 a 0 <;> simp
theorem op_self (a b : Int) (c : Nat) : r57 a b c a b c = true := by
  unfold r57 w57
  rw [float_self]; simp
theorem strs_self (hl : l.length ≤ 1048576) : r27 l l = (0, true) := by
  have key : r27l0 (1000 + l.length + l.length) 0 l l = 1 := by
    have := all_loop (n := l.length) (p := fun _ => true) (yes := 1) (no := 0) (G := fun m i => r27l0 m i l l) (fuel := 1000 + l.length + l.length) ?_ ?_ (by omega)
    · rw [this, show allN l.length (fun _ => true) = true from allN_true.2 (fun _ _ => rfl)]; rfl
    · intro m
      show b27l0 (r27l0 m) _ _ _ = _
      unfold b27l0
      rw [dlt_f (Nat.lt_irrefl _)]; rfl
    · intro m i hi
      show b27l0 (r27l0 m) _ _ _ = _
      unfold b27l0
      rw [dlt_t hi, dle0, Int.toNat_natCast, blt_t hi, wrap_succ (by omega), beq_self_eq_true]
      rfl
  unfold r27 w27
  rw [key, bne_len]; simp [Nat.beq]
theorem ops_self (ho : o.length ≤ 1048576) : r28 o o = (0, true) := by
  have key : r28l0 (1000 + o.length + o.length) 0 o o = 1 := by
    have := all_loop (n := o.length) (p := fun _ => true) (yes := 1) (no := 0) (G := fun m i => r28l0 m i o o) (fuel := 1000 + o.length + o.length) ?_ ?_ (by omega)
    · rw [this, show allN o.length (fun _ => true) = true from allN_true.2 (fun _ _ => rfl)]; rfl
    · intro m
      show b28l0 (r28l0 m) _ _ _ = _
      unfold b28l0
      rw [dlt_f (Nat.lt_irrefl _)]; rfl
    · intro m i hi
      show b28l0 (r28l0 m) _ _ _ = _
      unfold b28l0
      simp only [op_self]
      rw [dlt_t hi, dle0, Int.toNat_natCast, blt_t hi, wrap_succ (by omega)]
      rfl
  unfold r28 w28
  rw [key, bne_len]; simp [Nat.beq]
theorem prog_self (hl : l.length ≤ 1048576) (ho : o.length ≤ 1048576) : r9 l o l o = (0, true) := by
  unfold r9 w9
  rw [strs_self hl, ops_self ho]; rfl


end
/-! ### names -/
noncomputable def byteAt (s : ByteArray) (i : Nat) : Int := ((UInt8.toNat (List.getD (ByteArray.data s).toList i 0) : Nat) : Int)
noncomputable def letters (s : ByteArray) : Bool := allN s.size fun i => r77 (byteAt s i)
theorem nameS_loop {s : ByteArray} (hs : s.size ≤ 9223372036854775807) {fuel : Nat} (hf : s.size < fuel) : r42l0 fuel s 0 = cond (letters s) 1 0 := by
  refine all_loop (G := fun m i => r42l0 m s i) ?_ ?_ hf
  · intro m
    show b42l0 (r42l0 m) _ _ = _
    unfold b42l0 w42l0
    rw [dlt_f (Nat.lt_irrefl _)]; rfl
  · intro m i hi
    show b42l0 (r42l0 m) _ _ = _
    unfold b42l0 w42l0
    rw [dlt_t hi, dle0, Int.toNat_natCast, blt_t hi, wrap_succ (by omega)]
    show cond true (cond (true && true) (cond (!(r77 (byteAt s i))) 0 _) _) _ = _
    cases r77 (byteAt s i) <;> rfl
theorem nameI_loop {s : ByteArray} (hs : s.size ≤ 9223372036854775807) {fuel : Nat} (hf : s.size < fuel) : r49l0 fuel s ((s.size : Nat) : Int) 0 = cond (letters s) 1 0 := by
  refine all_loop (G := fun m i => r49l0 m s ((s.size : Nat) : Int) i) ?_ ?_ hf
  · intro m
    show b49l0 (r49l0 m) _ _ _ = _
    unfold b49l0
    rw [dlt_f (Nat.lt_irrefl _)]; rfl
  · intro m i hi
    show b49l0 (r49l0 m) _ _ _ = _
    unfold b49l0
    rw [dlt_t hi, dle0, Int.toNat_natCast, blt_t hi, wrap_succ (by omega)]
    show cond true (cond (true && true) (cond (decide (byteAt s i < 97)) 0 (cond (decide (byteAt s i > 122)) 0 _)) _) _ = _
    unfold r77 w77
    generalize byteAt s i = b
    by_cases h1 : b < 97
    · rw [decide_eq_true h1, decide_eq_false (show ¬ b ≥ 97 by omega)]; rfl
    · rw [decide_eq_false h1, decide_eq_true (show b ≥ 97 by omega)]
      by_cases h2 : b > 122
      · rw [decide_eq_true h2, decide_eq_false (show ¬ b ≤ 122 by omega)]; rfl
      · rw [decide_eq_false h2, decide_eq_true (show b ≤ 122 by omega)]; rfl
theorem name_both {s : ByteArray} (hs : s.size ≤ 9223372036854775807) : ∃ b, r42 s = (0, b) ∧ r49 s = (0, b) := by
  unfold r42 w42 r49 w49 r79 w79 r44 w44
  rw [nameS_loop hs (by omega), nameI_loop hs (by omega)]
  by_cases h1 : (s.size : Int) < 1
  · rw [decide_eq_true h1, decide_eq_false (show ¬ ((s.size : Nat) : Int) ≥ 1 by omega)]
    cases letters s <;> exact ⟨_, rfl, rfl⟩
  · rw [decide_eq_false h1, decide_eq_true (show ((s.size : Nat) : Int) ≥ 1 by omega)]
    by_cases h2 : (s.size : Int) > 8
    · rw [decide_eq_true h2, decide_eq_false (show ¬ ((s.size : Nat) : Int) ≤ 8 by omega)]
      cases letters s <;> exact ⟨_, rfl, rfl⟩
    · rw [decide_eq_false h2, decide_eq_true (show ((s.size : Nat) : Int) ≤ 8 by omega)]
      generalize (s.toList == (ByteArray.mk #[109, 105, 110]).toList) = w1
      generalize (s.toList == (ByteArray.mk #[109, 97, 120]).toList) = w2
      generalize (s.toList == (ByteArray.mk #[112, 105, 99, 107]).toList) = w3
      cases letters s <;> cases w1 <;> cases w2 <;> cases w3 <;> exact ⟨_, rfl, rfl⟩

/-! ### has it been named before? -/
theorem findS_loop {l : List ByteArray} (hl : l.length ≤ 1048576) (c : Nat) (s : ByteArray) {n : Nat} (hn : n ≤ l.length) : ∀ (k j fuel : Nat), j + k = n → k < fuel →
    cond ((List.range' j k).any fun q => (l.getD q .empty).toList == s.toList) (∃ v, r43l0b fuel n c s (j : Int) l = (0, v) ∧ 0 ≤ v) (r43l0b fuel n c s (j : Int) l = (1, 0)) := by
  intro k
  induction k with
  | zero =>
    intro j fuel h hf
    obtain ⟨m, rfl⟩ : ∃ m, fuel = m + 1 := ⟨fuel - 1, by omega⟩
    show b43l0b (r43l0b m) _ _ _ _ _ = _
    unfold b43l0b w43l0b
    rw [dlt_f (by omega)]; rfl
  | succ k ih =>
    intro j fuel h hf
    obtain ⟨m, rfl⟩ : ∃ m, fuel = m + 1 := ⟨fuel - 1, by omega⟩
    have hj : j < n := by omega
    have e : r43l0b (m + 1) n c s (j : Int) l = cond ((l.getD j .empty).toList == s.toList) (0, (j : Int)) (r43l0b m n c s ((j + 1 : Nat) : Int) l) := by
      show b43l0b (r43l0b m) _ _ _ _ _ = _
      unfold b43l0b w43l0b
      rw [dlt_t hj, dle0, Int.toNat_natCast, blt_t hj, Nat.zero_add, blt_t (show j < l.length by omega), wrap_succ (by omega)]
      rfl
    rw [e, List.range'_succ, List.any_cons]
    cases (l.getD j .empty).toList == s.toList with
    | true => exact ⟨j, rfl, by omega⟩
    | false => exact ih (j + 1) m (by omega) (by omega)
theorem findI_loop {l : List ByteArray} (hl : l.length ≤ 1048576) (c : Nat) (s : ByteArray) {n : Nat} (hn : n ≤ l.length) : ∀ (k j fuel : Nat), j + k = n → k < fuel →
    cond ((List.range' j k).any fun q => (l.getD q .empty).toList == s.toList) (∃ v, r80l0b fuel n c s ((n : Nat) : Int) (j : Int) l = (0, v) ∧ 0 ≤ v) (r80l0b fuel n c s ((n : Nat) : Int) (j : Int) l = (1, 0)) := by
  intro k
  induction k with
  | zero =>
    intro j fuel h hf
    obtain ⟨m, rfl⟩ : ∃ m, fuel = m + 1 := ⟨fuel - 1, by omega⟩
    show b80l0b (r80l0b m) _ _ _ _ _ _ = _
    unfold b80l0b w80l0b
    rw [dlt_f (by omega)]; rfl
  | succ k ih =>
    intro j fuel h hf
    obtain ⟨m, rfl⟩ : ∃ m, fuel = m + 1 := ⟨fuel - 1, by omega⟩
    have hj : j < n := by omega
    have e : r80l0b (m + 1) n c s ((n : Nat) : Int) (j : Int) l = cond ((l.getD j .empty).toList == s.toList) (0, (j : Int)) (r80l0b m n c s ((n : Nat) : Int) ((j + 1 : Nat) : Int) l) := by
      show b80l0b (r80l0b m) _ _ _ _ _ _ = _
      unfold b80l0b w80l0b
      rw [dlt_t hj, dle0, Int.toNat_natCast, blt_t hj, Nat.zero_add, blt_t (show j < l.length by omega), wrap_succ (by omega), BEq.comm (a := s.toList)]
      rfl
    rw [e, List.range'_succ, List.any_cons]
    cases (l.getD j .empty).toList == s.toList with
    | true => exact ⟨j, rfl, by omega⟩
    | false => exact ih (j + 1) m (by omega) (by omega)
noncomputable def before (l : List ByteArray) (s : ByteArray) (n : Nat) : Bool := (List.range' 0 n).any fun q => (l.getD q .empty).toList == s.toList
theorem findS {l : List ByteArray} (hl : l.length ≤ 1048576) (c : Nat) (s : ByteArray) {n : Nat} (hn : n ≤ l.length) : ∃ v, r43b n c s l = (0, v) ∧ decide (v ≥ 0) = before l s n := by
  have := findS_loop hl c s hn n 0 (1000 + l.length + s.size) (by omega) (by omega)
  unfold r43b w43b before
  cases hb : (List.range' 0 n).any fun q => (l.getD q .empty).toList == s.toList with
  | true =>
    rw [hb] at this
    obtain ⟨v, e, hv⟩ := this
    have e' : r43l0b (1000 + l.length + s.size) n c s 0 l = (0, v) := e
    rw [e']; exact ⟨v, rfl, by simpa using hv⟩
  | false =>
    rw [hb] at this
    have e' : r43l0b (1000 + l.length + s.size) n c s 0 l = (1, 0) := this
    rw [e']; exact ⟨-1, rfl, rfl⟩
theorem findI {l : List ByteArray} (hl : l.length ≤ 1048576) (c : Nat) (s : ByteArray) {n : Nat} (hn : n ≤ l.length) : r50b n c s l = (0, before l s n) := by
  have := findI_loop hl c s hn n 0 (1000 + l.length + s.size) (by omega) (by omega)
  unfold r50b w50b r80b w80b before
  cases hb : (List.range' 0 n).any fun q => (l.getD q .empty).toList == s.toList with
  | true =>
    rw [hb] at this
    obtain ⟨v, e, hv⟩ := this
    have e' : r80l0b (1000 + l.length + s.size) n c s ((n : Nat) : Int) 0 l = (0, v) := e
    rw [e']
    simp [Nat.beq, hv]
  | false =>
    rw [hb] at this
    have e' : r80l0b (1000 + l.length + s.size) n c s ((n : Nat) : Int) 0 l = (1, 0) := this
    rw [e']; rfl
noncomputable def varOk (l : List ByteArray) (i : Nat) : Bool := (r42 (l.getD i .empty)).2 && !before l (l.getD i .empty) i
theorem varsS {l : List ByteArray} (hs : ∀ s ∈ l, s.size ≤ 9223372036854775807) (hl : l.length ≤ 1048576) (o : List (List Int)) {fuel : Nat} (hf : l.length < fuel) : r17l0 fuel 0 l o = cond (allN l.length (varOk l)) 1 0 := by
  refine all_loop (G := fun m i => r17l0 m i l o) ?_ ?_ hf
  · intro m
    show b17l0 (r17l0 m) _ _ _ = _
    unfold b17l0
    rw [dlt_f (Nat.lt_irrefl _)]; rfl
  · intro m i hi
    show b17l0 (r17l0 m) _ _ _ = _
    have hsz : (l.getD i .empty).size ≤ 9223372036854775807 := by
      rw [List.getD_eq_getElem?_getD, List.getElem?_eq_getElem hi]
      exact hs _ (List.getElem_mem hi)
    obtain ⟨b, e1, _⟩ := name_both hsz
    obtain ⟨v, e2, e3⟩ := findS hl l.length (l.getD i .empty) (Nat.le_of_lt hi)
    unfold b17l0 varOk
    rw [dlt_t hi, dle0, Int.toNat_natCast, blt_t hi, wrap_succ (by omega), e1, e2, blt_t (show 0 < l.length by omega), show Nat.ble 0 i = true from Nat.ble_eq_true_of_le (Nat.zero_le _), show Nat.ble i l.length = true from Nat.ble_eq_true_of_le (Nat.le_of_lt hi)]
    simp only [e3]
    cases b <;> cases before l (l.getD i .empty) i <;> rfl
theorem varsI {l : List ByteArray} (hs : ∀ s ∈ l, s.size ≤ 9223372036854775807) (hl : l.length ≤ 1048576) (o : List (List Int)) {fuel : Nat} (hf : l.length < fuel) : r23l0 fuel ((l.length : Nat) : Int) 0 l o = cond (allN l.length (varOk l)) 1 0 := by
  refine all_loop (G := fun m i => r23l0 m ((l.length : Nat) : Int) i l o) ?_ ?_ hf
  · intro m
    show b23l0 (r23l0 m) _ _ _ _ = _
    unfold b23l0
    rw [dlt_f (Nat.lt_irrefl _)]; rfl
  · intro m i hi
    show b23l0 (r23l0 m) _ _ _ _ = _
    have hsz : (l.getD i .empty).size ≤ 9223372036854775807 := by
      rw [List.getD_eq_getElem?_getD, List.getElem?_eq_getElem hi]
      exact hs _ (List.getElem_mem hi)
    obtain ⟨b, e1, e1'⟩ := name_both hsz
    have e2 := findI hl l.length (l.getD i .empty) (Nat.le_of_lt hi)
    unfold b23l0 varOk
    rw [dlt_t hi, dle0, Int.toNat_natCast, blt_t hi, wrap_succ (by omega), e1, e1', e2, blt_t (show 0 < l.length by omega), show Nat.ble 0 i = true from Nat.ble_eq_true_of_le (Nat.zero_le _), show Nat.ble i l.length = true from Nat.ble_eq_true_of_le (Nat.le_of_lt hi)]
    cases b <;> cases before l (l.getD i .empty) i <;> rfl


/-! ### numbers -/
theorem finS (d : Nat) : r78 d = decide (d % 2147483648 < 2139095040) := finite_sub d
theorem finI (d : Nat) : r51 d = decide (d % 2147483648 < 2139095040) := by
  have e : r82 (widen d) 0 = decide (d % 2147483648 = 2139095040) := abs_top d
  unfold r51 w51 r81 w81
  rw [e, feq_self, isN_widen, isN32]
  by_cases h1 : 2139095040 < d % 2147483648
  · have h2 : ¬ (d % 2147483648 < 2139095040) := by omega
    simp [h1, h2]
  · by_cases h2 : d % 2147483648 = 2139095040
    · simp [h2]
    · have h3 : d % 2147483648 < 2139095040 := by omega
      simp [h1, h2, h3]
theorem zero_eq {d : Nat} (h : d < 4294967296) (hf : d % 2147483648 < 2139095040) : feq .f32 d 0 = decide (d = 0 ∨ d = 2147483648) := by
  have hn : isN .f32 d = false := by rw [isN32, decide_eq_false_iff_not]; omega
  have z : isN .f32 0 = false := by decide
  rw [feq_key .f32 d _ hn z, key32 d h, key32 0 (by decide)]
  apply decide_eq_decide.2
  by_cases h2 : 2147483648 ≤ d
  · simp only [if_pos h2]
    simp; omega
  · simp only [if_neg h2]
    simp; omega
theorem bits0 {d : Nat} : ((((d : Nat) : Int) : Int) == 0) = decide (d = 0) := by
  by_cases h : d = 0
  · subst h; rfl
  · rw [decide_eq_false h, beq_eq_false_iff_ne]; omega
theorem bits31 {d : Nat} : ((((d : Nat) : Int) : Int) == 2147483648) = decide (d = 2147483648) := by
  by_cases h : d = 2147483648
  · subst h; rfl
  · rw [decide_eq_false h, beq_eq_false_iff_ne]; omega
theorem isZ (d : Nat) : r52 d = decide (d = 0) := by
  unfold r52 w52
  rw [bits0]
  by_cases h : d = 0
  · subst h; rfl
  · rw [decide_eq_false h]; cases isN .f32 d <;> rfl

/-! ### a step -/
noncomputable def fltOk (k : Int) (f : Nat) : Bool := cond (k == 1) (decide (f % 2147483648 < 2139095040) && !decide (f = 2147483648)) (decide (f = 0))
noncomputable def argOk (k a v : Int) : Bool := cond (k == 2) (decide (a ≥ 0) && decide (a ≤ 3)) (cond (k == 3) (decide (a ≥ 0) && decide (a ≤ v - 1)) (cond (k == 4) (a == v) (a == 0)))
noncomputable def dd (k d : Int) : Int := d + ((r46 k).2 - (r46 k).1)
noncomputable def vv (k v : Int) : Int := cond (k == 4) (v + 1) v
noncomputable def okS (k a : Int) (f : Nat) (d v : Int) : Bool := r44 k 1 12 && (fltOk k f && argOk k a v) && !decide (d < (r46 k).1) && !decide (dd k d > 20) && cond (k == 4) (!(dd k d != 0)) true
noncomputable def okI (k a : Int) (f : Nat) (d v len : Int) : Bool := okS k a f d v && cond (k == 4) (!decide (v ≥ len)) true
theorem takes (k : Int) : 0 ≤ (r46 k).1 ∧ (r46 k).1 ≤ 3 ∧ 0 ≤ (r46 k).2 ∧ (r46 k).2 ≤ 1 := by
  unfold r46
  cases k == 1 <;> cases k == 2 <;> cases k == 3 <;> cases k == 4 <;> cases k == 12 <;> cases k == 11 <;> decide
theorem wrap_dd (k d : Int) (h0 : 0 ≤ d) (h1 : d ≤ 20) : IntKind.i64.wrap (d + IntKind.i64.wrap ((r46 k).2 - (r46 k).1)) = dd k d := by
  have := takes k
  unfold dd
  rw [wrap_i64 (n := (r46 k).2 - (r46 k).1) (by omega) (by omega), wrap_i64 (by omega) (by omega)]
theorem bne_not (a b : Int) : (a != b) = !(a == b) := rfl
theorem fieldsS {o : List (List Int)} {i : Nat} (hi : i < o.length) {v : Int} (hv0 : 0 ≤ v) (hv1 : v ≤ 1048576) {k a : Int} {f : Nat} (ek : (o.getD i []).getD 0 0 = k) (ea : (o.getD i []).getD 1 0 = a) (ef : Int.toNat ((o.getD i []).getD 2 0) = f)
    (ha : -32768 ≤ a ∧ a ≤ 32767) (hf : f < 4294967296) : r45 i v o = (0, fltOk k f && argOk k a v) := by
  unfold r45
  simp only [ek, ea, ef]
  rw [blt_t hi, cond_true, finS, bits31, wrap_i64 (n := a) (by omega) (by omega), wrap_i64 (n := v - 1) (by omega) (by omega), bne_not]
  have hT : (cond (k == 2) (0, r44 a 0 3) (cond (k == 3) (0, r44 a 0 (v - 1)) (cond (k == 4) (0, a == v) (0, a == 0))) : Nat × Bool) = (0, argOk k a v) := by
    have hr : ∀ x, r44 a 0 x = (decide (a ≥ 0) && decide (a ≤ x)) := fun x => by unfold r44 w44; cases decide (a ≥ 0) <;> rfl
    unfold argOk
    rw [hr, hr]
    cases k == 2 <;> cases k == 3 <;> cases k == 4 <;> rfl
  rw [hT]
  unfold fltOk
  by_cases h1 : f % 2147483648 < 2139095040
  · have hn : isN .f32 f = false := by rw [isN32, decide_eq_false_iff_not]; omega
    rw [decide_eq_true h1, hn, zero_eq hf h1]
    by_cases h2 : f = 2147483648
    · have h3 : ¬ f = 0 := by omega
      rw [decide_eq_true h2, decide_eq_false h3]
      cases k == 1 <;> rfl
    · rw [decide_eq_false h2]
      by_cases h3 : f = 0
      · rw [decide_eq_true h3, decide_eq_true (show f = 0 ∨ f = 2147483648 from .inl h3)]
        cases k == 1 <;> simp
      · rw [decide_eq_false h3, decide_eq_false (show ¬ (f = 0 ∨ f = 2147483648) by omega)]
        cases k == 1 <;> simp
  · have h3 : ¬ f = 0 := by intro e; subst e; omega
    rw [decide_eq_false h1, decide_eq_false h3]
    cases k == 1 <;> rfl
theorem stepS {l : List ByteArray} {o : List (List Int)} (ho : o.length ≤ 1048576) {i : Nat} (hi : i < o.length) {d v : Int} (hd0 : 0 ≤ d) (hd1 : d ≤ 20) (hv0 : 0 ≤ v) (hv1 : v ≤ 1048576) {k a : Int} {f : Nat} (ek : (o.getD i []).getD 0 0 = k) (ea : (o.getD i []).getD 1 0 = a)
    (ef : Int.toNat ((o.getD i []).getD 2 0) = f) (hk : -128 ≤ k ∧ k ≤ 127) (ha : -32768 ≤ a ∧ a ≤ 32767) (hf : f < 4294967296) (m : Nat) :
    (okS k a f d v = true → r17l1 (m + 1) d v (i : Int) l o = r17l1 m (dd k d) (vv k v) ((i + 1 : Nat) : Int) l o) ∧ (okS k a f d v = false → (r17l1 (m + 1) d v (i : Int) l o).1 = 0) := by
  have hX : r17l1 (m + 1) d v (i : Int) l o = b17l1 (r17l1 m) d v (i : Int) l o := rfl
  rw [hX]
  unfold b17l1 okS vv
  rw [Int.toNat_natCast]
  simp only [ek]
  rw [dlt_t hi, dle0, blt_t hi, wrap_succ (by omega), fieldsS hi hv0 hv1 ek ea ef ha hf, wrap_dd k d hd0 hd1, wrap_i64 (n := v + 1) (by omega) (by omega), wrap_i64 (n := k) (by omega) (by omega)]
  generalize r44 k 1 12 = A
  generalize (fltOk k f && argOk k a v) = B
  generalize decide (d < (r46 k).1) = C
  generalize decide (dd k d > 20) = E
  generalize (dd k d != 0) = G
  generalize (k == 4) = F
  cases A <;> cases B <;> cases C <;> cases E <;> cases F <;> cases G <;> exact ⟨fun h => (by first | rfl | cases h), fun h => (by first | rfl | cases h)⟩

theorem stepI {l : List ByteArray} {o : List (List Int)} (ho : o.length ≤ 1048576) (hl : l.length ≤ 1048576) {i : Nat} (hi : i < o.length) {d v : Int} (hd0 : 0 ≤ d) (hd1 : d ≤ 20) (hv0 : 0 ≤ v) (hv1 : v ≤ 1048576) {k a : Int} {f : Nat} (ek : (o.getD i []).getD 0 0 = k) (ea : (o.getD i []).getD 1 0 = a)
    (ef : Int.toNat ((o.getD i []).getD 2 0) = f) (hk : -128 ≤ k ∧ k ≤ 127) (ha : -32768 ≤ a ∧ a ≤ 32767) (hf : f < 4294967296) (m : Nat) :
    (okI k a f d v ((l.length : Nat) : Int) = true → r23l1 (m + 1) d v ((o.length : Nat) : Int) (i : Int) o l = r23l1 m (dd k d) (vv k v) ((o.length : Nat) : Int) ((i + 1 : Nat) : Int) o l) ∧
    (okI k a f d v ((l.length : Nat) : Int) = false → (r23l1 (m + 1) d v ((o.length : Nat) : Int) (i : Int) o l).1 = 0) := by
  have hX : r23l1 (m + 1) d v ((o.length : Nat) : Int) (i : Int) o l = b23l1 (r23l1 m) d v ((o.length : Nat) : Int) (i : Int) o l := rfl
  rw [hX]
  have e53 : ∀ x, r53 x = r46 x := fun _ => rfl
  unfold b23l1 okI okS vv
  rw [Int.toNat_natCast]
  simp only [ek, ea, ef, e53]
  rw [dlt_t hi, dle0, blt_t hi, wrap_succ (by omega), wrap_dd k d hd0 hd1, wrap_i64 (n := v + 1) (by omega) (by omega), wrap_i64 (n := a) (by omega) (by omega)]
  have hA : r44 k 1 12 = (!decide (k < 1) && !decide (k > 12)) := by
    unfold r44 w44
    by_cases h1 : k < 1
    · rw [decide_eq_true h1, decide_eq_false (show ¬ k ≥ 1 by omega)]; rfl
    · rw [decide_eq_false h1, decide_eq_true (show k ≥ 1 by omega)]
      by_cases h2 : k > 12
      · rw [decide_eq_true h2, decide_eq_false (show ¬ k ≤ 12 by omega)]; rfl
      · rw [decide_eq_false h2, decide_eq_true (show k ≤ 12 by omega)]; rfl
  rw [hA, isZ, finI, bne_not k 1]
  unfold argOk fltOk
  generalize decide (k < 1) = A1
  generalize decide (k > 12) = A2
  generalize decide (d < (r46 k).1) = C
  generalize decide (dd k d > 20) = E
  generalize (dd k d != 0) = G
  cases A1 <;> cases A2 <;> try exact ⟨fun h => (by cases h), fun h => rfl⟩
  by_cases h1 : k = 1
  · subst h1
    rw [show ((1 : Int) == 1) = true from rfl, show ((1 : Int) == 2) = false from rfl, show ((1 : Int) == 3) = false from rfl, show ((1 : Int) == 4) = false from rfl, bne_not a 0]
    simp only [cond_true, cond_false, Bool.not_true, Bool.not_false, Bool.true_and, Bool.and_true]
    generalize (a == 0) = Z0
    by_cases h2 : f % 2147483648 < 2139095040
    · rw [decide_eq_true h2, zero_eq hf h2]
      by_cases h3 : f = 0
      · rw [decide_eq_true h3, decide_eq_true (show f = 0 ∨ f = 2147483648 from .inl h3), decide_eq_false (show ¬ f = 2147483648 by omega)]
        cases Z0 <;> cases C <;> cases E <;> exact ⟨fun h => (by first | rfl | cases h), fun h => (by first | rfl | cases h)⟩
      · rw [decide_eq_false h3]
        by_cases h4 : f = 2147483648
        · rw [decide_eq_true (show f = 0 ∨ f = 2147483648 from .inr h4), decide_eq_true h4]
          cases Z0 <;> cases C <;> cases E <;> exact ⟨fun h => (by first | rfl | cases h), fun h => (by first | rfl | cases h)⟩
        · rw [decide_eq_false (show ¬ (f = 0 ∨ f = 2147483648) by omega), decide_eq_false h4]
          cases Z0 <;> cases C <;> cases E <;> exact ⟨fun h => (by first | rfl | cases h), fun h => (by first | rfl | cases h)⟩
    · rw [decide_eq_false h2]
      cases Z0 <;> cases C <;> cases E <;> exact ⟨fun h => (by first | rfl | cases h), fun h => (by first | rfl | cases h)⟩
  · have g1 : (k == 1) = false := beq_eq_false_iff_ne.2 h1
    rw [g1]
    simp only [cond_true, cond_false, Bool.not_true, Bool.not_false, Bool.true_and, Bool.and_true]
    generalize decide (f = 0) = Z
    by_cases h2 : k = 2
    · subst h2
      rw [show ((2 : Int) == 2) = true from rfl, show ((2 : Int) == 3) = false from rfl, show ((2 : Int) == 4) = false from rfl]
      simp only [cond_true, cond_false]
      by_cases q1 : a < 0
      · rw [decide_eq_true q1, decide_eq_false (show ¬ a ≥ 0 by omega)]
        cases Z <;> cases C <;> cases E <;> exact ⟨fun h => (by first | rfl | cases h), fun h => (by first | rfl | cases h)⟩
      · rw [decide_eq_false q1, decide_eq_true (show a ≥ 0 by omega)]
        by_cases q2 : a ≥ 4
        · rw [decide_eq_true q2, decide_eq_false (show ¬ a ≤ 3 by omega)]
          cases Z <;> cases C <;> cases E <;> exact ⟨fun h => (by first | rfl | cases h), fun h => (by first | rfl | cases h)⟩
        · rw [decide_eq_false q2, decide_eq_true (show a ≤ 3 by omega)]
          cases Z <;> cases C <;> cases E <;> exact ⟨fun h => (by first | rfl | cases h), fun h => (by first | rfl | cases h)⟩
    · rw [show (k == 2) = false from beq_eq_false_iff_ne.2 h2]
      simp only [cond_true, cond_false]
      by_cases h3 : k = 3
      · subst h3
        rw [show ((3 : Int) == 3) = true from rfl, show ((3 : Int) == 4) = false from rfl]
        simp only [cond_true, cond_false]
        by_cases q1 : a < 0
        · rw [decide_eq_true q1, decide_eq_false (show ¬ a ≥ 0 by omega)]
          cases Z <;> cases C <;> cases E <;> exact ⟨fun h => (by first | rfl | cases h), fun h => (by first | rfl | cases h)⟩
        · rw [decide_eq_false q1, decide_eq_true (show a ≥ 0 by omega)]
          by_cases q2 : a ≥ v
          · rw [decide_eq_true q2, decide_eq_false (show ¬ a ≤ v - 1 by omega)]
            cases Z <;> cases C <;> cases E <;> exact ⟨fun h => (by first | rfl | cases h), fun h => (by first | rfl | cases h)⟩
          · rw [decide_eq_false q2, decide_eq_true (show a ≤ v - 1 by omega)]
            cases Z <;> cases C <;> cases E <;> exact ⟨fun h => (by first | rfl | cases h), fun h => (by first | rfl | cases h)⟩
      · rw [show (k == 3) = false from beq_eq_false_iff_ne.2 h3]
        simp only [cond_true, cond_false]
        by_cases h4 : k = 4
        · subst h4
          rw [show ((4 : Int) == 4) = true from rfl, bne_not a v]
          simp only [cond_true, cond_false]
          generalize (a == v) = Q
          generalize decide (v ≥ ((l.length : Nat) : Int)) = VL
          cases Q <;> cases VL <;> cases Z <;> cases C <;> cases E <;> cases G <;> exact ⟨fun h => (by first | rfl | cases h), fun h => (by first | rfl | cases h)⟩
        · rw [show (k == 4) = false from beq_eq_false_iff_ne.2 h4, bne_not a 0]
          simp only [cond_true, cond_false]
          generalize (a == 0) = Q
          cases Q <;> cases Z <;> cases C <;> cases E <;> exact ⟨fun h => (by first | rfl | cases h), fun h => (by first | rfl | cases h)⟩

/-! ### all steps -/
theorem steps {l : List ByteArray} {o : List (List Int)} (hr : RowsOk Sh3 o) (ho : o.length ≤ 1048576) (hl : l.length ≤ 1048576) : ∀ (n i fs fi : Nat) (d v : Int), i + n = o.length → n < fs → n < fi → 0 ≤ d → d ≤ 20 → 0 ≤ v → v ≤ (i : Int) →
    ((r17l1 fs d v (i : Int) l o).1 = 0 ∧ (r23l1 fi d v ((o.length : Nat) : Int) (i : Int) o l).1 = 0) ∨
    (∃ d' v', r17l1 fs d v (i : Int) l o = (1, 0, 0, d', v') ∧ v ≤ v' ∧ (r23l1 fi d v ((o.length : Nat) : Int) (i : Int) o l = (1, 0, 0, d', v') ∨ ((r23l1 fi d v ((o.length : Nat) : Int) (i : Int) o l).1 = 0 ∧ ((l.length : Nat) : Int) < v'))) := by
  intro n
  induction n with
  | zero =>
    intro i fs fi d v h hf1 hf2 _ _ _ _
    obtain ⟨m, rfl⟩ : ∃ m, fs = m + 1 := ⟨fs - 1, by omega⟩
    obtain ⟨m', rfl⟩ : ∃ m, fi = m + 1 := ⟨fi - 1, by omega⟩
    refine .inr ⟨d, v, ?_, Int.le_refl _, .inl ?_⟩
    · show b17l1 (r17l1 m) _ _ _ _ _ = _
      unfold b17l1
      rw [dlt_f (by omega)]; rfl
    · show b23l1 (r23l1 m') _ _ _ _ _ _ = _
      unfold b23l1
      rw [dlt_f (by omega)]; rfl
  | succ n ih =>
    intro i fs fi d v h hf1 hf2 hd0 hd1 hv0 hv1
    obtain ⟨m, rfl⟩ : ∃ m, fs = m + 1 := ⟨fs - 1, by omega⟩
    obtain ⟨m', rfl⟩ : ∃ m, fi = m + 1 := ⟨fi - 1, by omega⟩
    have hi : i < o.length := by omega
    have hrow := hr.get hi
    have c0 := hrow.get (show Sh3[0]? = some (.int .i8) from rfl)
    have c1 := hrow.get (show Sh3[1]? = some (.int .i16) from rfl)
    have c2 := (hrow.get (show Sh3[2]? = some (.fl .f32) from rfl)).lt32
    simp only [CTok, show IntKind.i8.min = -128 from by decide, show IntKind.i8.max = 127 from by decide] at c0
    simp only [CTok, show IntKind.i16.min = -32768 from by decide, show IntKind.i16.max = 32767 from by decide] at c1
    obtain ⟨s1, s2⟩ := stepS (l := l) ho hi hd0 hd1 hv0 (by omega) rfl rfl rfl c0 c1 c2 m
    obtain ⟨i1, i2⟩ := stepI (l := l) ho hl hi hd0 hd1 hv0 (by omega) rfl rfl rfl c0 c1 c2 m'
    generalize (o.getD i []).getD 0 0 = k at *
    generalize (o.getD i []).getD 1 0 = a at *
    generalize Int.toNat ((o.getD i []).getD 2 0) = f at *
    cases hs : okS k a f d v with
    | false =>
      refine .inl ⟨s2 hs, i2 ?_⟩
      unfold okI; rw [hs]; rfl
    | true =>
      rw [s1 hs]
      have hb : 0 ≤ dd k d ∧ dd k d ≤ 20 := by
        have ht := takes k
        unfold okS at hs
        simp only [Bool.and_eq_true, Bool.not_eq_true', decide_eq_false_iff_not] at hs
        refine ⟨?_, by omega⟩
        have := hs.1.1.2
        unfold dd; omega
      have hvv : 0 ≤ vv k v ∧ vv k v ≤ ((i + 1 : Nat) : Int) ∧ v ≤ vv k v := by
        unfold vv
        cases k == 4 <;> simp only [cond_true, cond_false] <;> omega
      cases hI : okI k a f d v ((l.length : Nat) : Int) with
      | true =>
        rw [i1 hI]
        rcases ih (i + 1) m m' (dd k d) (vv k v) (by omega) (by omega) (by omega) hb.1 hb.2 hvv.1 hvv.2.1 with g | ⟨d', v', g1, g2, g3⟩
        · exact .inl g
        · exact .inr ⟨d', v', g1, by omega, g3⟩
      | false =>
        rcases ih (i + 1) m m' (dd k d) (vv k v) (by omega) (by omega) (by omega) hb.1 hb.2 hvv.1 hvv.2.1 with g | ⟨d', v', g1, g2, g3⟩
        · exact .inl ⟨g.1, i2 hI⟩
        · refine .inr ⟨d', v', g1, by omega, .inr ⟨i2 hI, ?_⟩⟩
          unfold okI at hI
          rw [hs, Bool.true_and] at hI
          unfold vv at g2
          cases h4 : k == 4 with
          | false => rw [h4] at hI; cases hI
          | true =>
            rw [h4] at hI g2
            simp only [cond_true, Bool.not_eq_false', decide_eq_true_eq] at hI g2
            omega

theorem valid_both {l : List ByteArray} {o : List (List Int)} (hs : ∀ s ∈ l, s.size ≤ 9223372036854775807) (hr : RowsOk Sh3 o) (hl : l.length ≤ 1048576) (ho : o.length ≤ 1048576) : ∃ b, r17 l o = (0, b) ∧ r23 l o = (0, b) := by
  have key : ∃ b, r17 l o = (0, b) ∧ r23 l o = (0, b) := by
    unfold r17 w17 r23 w23
    rw [varsS hs hl o (by omega), varsI hs hl o (by omega)]
    cases decide ((((l.length : Nat) : Int) : Int) > 12) with
    | true => exact ⟨_, rfl, rfl⟩
    | false =>
      cases decide ((((o.length : Nat) : Int) : Int) > 300) with
      | true => exact ⟨_, rfl, rfl⟩
      | false =>
        cases allN l.length (varOk l) with
        | false => exact ⟨_, rfl, rfl⟩
        | true =>
          rcases steps hr ho hl o.length 0 (1000 + o.length + l.length) (1000 + l.length + o.length) 0 0 (by omega) (by omega) (by omega) (by decide) (by decide) (by decide) (by simp) with ⟨g1, g2⟩ | ⟨d', v', g1, _, g2⟩
          · have g1' : (r17l1 (1000 + o.length + l.length) 0 0 0 l o).1 = 0 := g1
            have g2' : (r23l1 (1000 + l.length + o.length) 0 0 ((o.length : Nat) : Int) 0 o l).1 = 0 := g2
            simp only [g1', g2']
            exact ⟨_, rfl, rfl⟩
          · have g1' : r17l1 (1000 + o.length + l.length) 0 0 0 l o = (1, 0, 0, d', v') := g1
            rw [g1']
            rcases g2 with g2 | ⟨g2, g3⟩
            · have g2' : r23l1 (1000 + l.length + o.length) 0 0 ((o.length : Nat) : Int) 0 o l = (1, 0, 0, d', v') := g2
              rw [g2']
              simp only
              cases (d' == 0) with
              | false => exact ⟨_, rfl, rfl⟩
              | true => exact ⟨_, rfl, rfl⟩
            · have g2' : (r23l1 (1000 + l.length + o.length) 0 0 ((o.length : Nat) : Int) 0 o l).1 = 0 := g2
              have : (v' == ((l.length : Nat) : Int)) = false := beq_eq_false_iff_ne.2 (by omega)
              simp only [g2', this]
              cases (d' == 0) <;> exact ⟨_, rfl, rfl⟩
  exact key
end Go.Proofs.YtffpnkkhcgjmfaaDoor
