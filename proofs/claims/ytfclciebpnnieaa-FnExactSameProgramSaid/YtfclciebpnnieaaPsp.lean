/- The plain law of SameProgram. -/
import Derived.Test.YtfclciebpnnieaaSp2
import Derived.Test.YtfclciebpnnieaaA25
namespace Go.Proofs.Ytfclciebpnnieaa
open Go.Ab

abbrev S3 : List CT := [.int .i8, .int .i16, .fl .f32]

/-! ### sizes -/
theorem szStrs_loop {l : List ByteArray} (hs : ∀ s ∈ l, s.size ≤ 9223372036854775807) (hl : l.length ≤ 1048576) : ∀ (k i fuel : Nat) (b : Int), i + k = l.length → k < fuel → 0 ≤ b → b ≤ 1048576 →
    (r39l0 fuel b (i : Int) l).1 = 0 ∨ ∃ v, r39l0 fuel b (i : Int) l = (1, 0, v) ∧ 0 ≤ v ∧ v ≤ b := by
  intro k
  induction k with
  | zero =>
    intro i fuel b h hf h0 h1
    obtain ⟨m, rfl⟩ : ∃ m, fuel = m + 1 := ⟨fuel - 1, by omega⟩
    refine .inr ⟨b, ?_, h0, Int.le_refl _⟩
    show b39l0 (r39l0 m) _ _ _ = _
    unfold b39l0
    rw [dlt_f (by omega)]; rfl
  | succ k ih =>
    intro i fuel b h hf h0 h1
    obtain ⟨m, rfl⟩ : ∃ m, fuel = m + 1 := ⟨fuel - 1, by omega⟩
    have hi : i < l.length := by omega
    have hsz : (l.getD i .empty).size ≤ 9223372036854775807 := by
      rw [List.getD_eq_getElem?_getD, List.getElem?_eq_getElem hi]
      exact hs _ (List.getElem_mem hi)
    have e : r39l0 (m + 1) b (i : Int) l = cond (decide (b - ((l.getD i .empty).size : Int) < 0)) (0, b - ((l.getD i .empty).size : Int), 0) (r39l0 m (b - ((l.getD i .empty).size : Int)) ((i + 1 : Nat) : Int) l) := by
      show b39l0 (r39l0 m) _ _ _ = _
      unfold b39l0
      rw [dlt_t hi, dle0, Int.toNat_natCast, blt_t hi, wrap_succ (by omega), wrap_i64 (by omega) (by omega)]
      rfl
    rw [e]
    by_cases hn : b - ((l.getD i .empty).size : Int) < 0
    · rw [decide_eq_true hn]; exact .inl rfl
    · rw [decide_eq_false hn]
      rcases ih (i + 1) m _ (by omega) (by omega) (show 0 ≤ b - ((l.getD i .empty).size : Int) by omega) (by omega) with g | ⟨v, g1, g2, g3⟩
      · exact .inl g
      · exact .inr ⟨v, g1, g2, by omega⟩
theorem szStrs {l : List ByteArray} (hs : ∀ s ∈ l, s.size ≤ 9223372036854775807) (hl : l.length ≤ 9223372036854775807) {b : Int} (h0 : 0 ≤ b) (h1 : b ≤ 1048576) :
    ∃ v, r39 b l = (0, v) ∧ (v = -1 ∨ (0 ≤ v ∧ v ≤ b ∧ (l.length : Int) ≤ b)) := by
  unfold r39
  rw [wrap_i64 (by omega) (by omega)]
  by_cases hn : b - (l.length : Int) < 0
  · rw [decide_eq_true hn]; exact ⟨-1, rfl, .inl rfl⟩
  · rw [decide_eq_false hn, cond_false]
    rcases szStrs_loop hs (by omega) l.length 0 (1000 + l.length) (b - (l.length : Int)) (by omega) (by omega) (by omega) (by omega) with g | ⟨v, g1, g2, g3⟩
    · have g' : (r39l0 (1000 + l.length) (b - (l.length : Int)) 0 l).1 = 0 := g
      rw [g']; exact ⟨-1, rfl, .inl rfl⟩
    · have g' : r39l0 (1000 + l.length) (b - (l.length : Int)) 0 l = (1, 0, v) := g1
      rw [g']; exact ⟨v, rfl, .inr ⟨g2, by omega, by omega⟩⟩
theorem szP {l : List ByteArray} {rows : List (List Int)} (hs : ∀ s ∈ l, s.size ≤ 9223372036854775807) (hl : l.length ≤ 9223372036854775807) (hr : rows.length ≤ 9223372036854775807) {b : Int} (h0 : 0 ≤ b) (h1 : b ≤ 1048576) :
    ∃ v, r10 b l rows = (0, v) ∧ (v = -1 ∨ (0 ≤ v ∧ v ≤ b ∧ l.length ≤ 1048576 ∧ rows.length ≤ 1048576)) := by
  obtain ⟨v, e, hv⟩ := szStrs hs hl h0 h1
  unfold r10
  rw [e]
  simp only [show Nat.beq 0 0 = true from rfl, cond_true]
  rcases hv with rfl | ⟨g1, g2, g3⟩
  · exact ⟨-1, rfl, .inl rfl⟩
  · rw [decide_eq_false (by omega), cond_false]
    have e40 : r40 v rows = cond (decide (v - (rows.length : Int) < 0)) (-1) (v - (rows.length : Int)) := by
      unfold r40
      rw [wrap_i64 (by omega) (by omega)]
    rw [e40]
    by_cases hn : v - (rows.length : Int) < 0
    · rw [decide_eq_true hn]; exact ⟨-1, rfl, .inl rfl⟩
    · rw [decide_eq_false hn, cond_false, decide_eq_false hn]
      exact ⟨_, rfl, .inr ⟨by omega, by omega, by omega, by omega⟩⟩

/-! ### copies -/
theorem copyStrs {l : List ByteArray} (hl : l.length ≤ 1048576) : r42 l = (0, l) := by
  have key : ∀ fuel, l.length < fuel → r42l0 fuel 0 l (List.replicate l.length (ByteArray.mk #[])) = (0, l) := by
    intro fuel hf
    refine copy_loop (d := ByteArray.empty) (mk := fun x => (0, x)) (G := fun m x i => r42l0 m i l x) ?_ ?_ (by simp) hf
    · intro m x hx
      show b42l0 (r42l0 m) _ l x = _
      unfold b42l0
      rw [dlt_f (Nat.lt_irrefl _)]; rfl
    · intro m i x hi hx
      show b42l0 (r42l0 m) _ l x = _
      unfold b42l0
      rw [dlt_t hi, dle0, Int.toNat_natCast, blt_t hi, blt_t (by omega), wrap_succ (by omega)]
      rfl
  unfold r42
  rw [key _ (by simp; omega)]
  have c1 : decide ((0 : Int) ≤ ((l.length : Nat) : Int)) = true := dle0 _
  have c2 : decide ((((l.length : Nat) : Int) : Int) ≤ ((l.length : Nat) : Int)) = true := by simp
  have c3 : decide (((16 : Nat) : Int) * ((l.length : Nat) : Int) ≤ 281474976710656) = true := by rw [decide_eq_true_eq]; omega
  have c4 : decide (((l.length : Nat) : Int) ≤ 9223372036854775807) = true := by rw [decide_eq_true_eq]; omega
  rw [c1, c2, c3, c4]; rfl
theorem copyOps {rows : List (List Int)} (h : RowsOk S3 rows) (hl : rows.length ≤ 1048576) : r43 rows = (0, rows) := by
  have key : ∀ fuel, rows.length < fuel → r43l0 fuel 0 rows (List.replicate rows.length ([0, 0, 0] : List Int)) = (0, rows) := by
    intro fuel hf
    refine copy_loop (d := []) (mk := fun x => (0, x)) (G := fun m x i => r43l0 m i rows x) ?_ ?_ (by simp) hf
    · intro m x hx
      show b43l0 (r43l0 m) _ rows x = _
      unfold b43l0
      rw [dlt_f (Nat.lt_irrefl _)]; rfl
    · intro m i x hi hx
      show b43l0 (r43l0 m) _ rows x = _
      unfold b43l0
      rw [dlt_t hi, dle0, Int.toNat_natCast, blt_t hi, blt_t (by omega), wrap_succ (by omega)]
      exact congrArg (fun r => r43l0 m _ rows (x.set i r)) (reb_eq (h.get hi))
  unfold r43
  rw [key _ (by simp; omega)]
  have c1 : decide ((0 : Int) ≤ ((rows.length : Nat) : Int)) = true := dle0 _
  have c2 : decide ((((rows.length : Nat) : Int) : Int) ≤ ((rows.length : Nat) : Int)) = true := by simp
  have c3 : decide (((8 : Nat) : Int) * ((rows.length : Nat) : Int) ≤ 281474976710656) = true := by rw [decide_eq_true_eq]; omega
  have c4 : decide (((rows.length : Nat) : Int) ≤ 9223372036854775807) = true := by rw [decide_eq_true_eq]; omega
  rw [c1, c2, c3, c4]; rfl
theorem copyP {l : List ByteArray} {rows : List (List Int)} (h : RowsOk S3 rows) (hl : l.length ≤ 1048576) (hr : rows.length ≤ 1048576) : r12 l rows = (0, l, rows) := by
  unfold r12
  rw [copyStrs hl, copyOps h hr]; rfl

/-! ### sameness -/
noncomputable def sEq (x y : List ByteArray) (i : Nat) : Bool := (x.getD i .empty).toList == (y.getD i .empty).toList
noncomputable def oEq (x y : List (List Int)) (i : Nat) : Bool :=
  !(((x.getD i []).getD 0 0) != ((y.getD i []).getD 0 0)) && !(((x.getD i []).getD 1 0) != ((y.getD i []).getD 1 0)) && r41 (Int.toNat ((x.getD i []).getD 2 0)) (Int.toNat ((y.getD i []).getD 2 0))
variable {l l' : List ByteArray} {o o' : List (List Int)}
theorem specStrs (hl : l.length ≤ 1048576) (e : l'.length = l.length) (o o' : List (List Int)) {fuel : Nat} (hf : l.length < fuel) : r11l0 fuel 0 l o l' o' = cond (allN l.length (sEq l l')) 1 0 := by
  refine all_loop (G := fun m i => r11l0 m i l o l' o') ?_ ?_ hf
  · intro m
    show b11l0 (r11l0 m) _ _ _ _ _ = _
    unfold b11l0
    rw [dlt_f (Nat.lt_irrefl _)]; rfl
  · intro m i hi
    show b11l0 (r11l0 m) _ _ _ _ _ = _
    unfold b11l0
    rw [dlt_t hi, dle0, Int.toNat_natCast, blt_t hi, blt_t (by omega), wrap_succ (by omega)]
    show cond true (cond (true && true) (cond (true && true) (cond (!(sEq l l' i)) 0 _) _) _) _ = _
    cases sEq l l' i <;> rfl
theorem specOps (ho : o.length ≤ 1048576) (e : o'.length = o.length) (l l' : List ByteArray) {fuel : Nat} (hf : o.length < fuel) : r11l1 fuel 0 l o l' o' = cond (allN o.length (oEq o o')) 1 0 := by
  refine all_loop (G := fun m i => r11l1 m i l o l' o') ?_ ?_ hf
  · intro m
    show b11l1 (r11l1 m) _ _ _ _ _ = _
    unfold b11l1
    rw [dlt_f (Nat.lt_irrefl _)]; rfl
  · intro m i hi
    show b11l1 (r11l1 m) _ _ _ _ _ = _
    unfold b11l1 oEq
    rw [dlt_t hi, dle0, Int.toNat_natCast, blt_t hi, blt_t (by omega), wrap_succ (by omega)]
    generalize (((o.getD i []).getD 0 0) != ((o'.getD i []).getD 0 0)) = a
    generalize (((o.getD i []).getD 1 0) != ((o'.getD i []).getD 1 0)) = b
    generalize r41 (Int.toNat ((o.getD i []).getD 2 0)) (Int.toNat ((o'.getD i []).getD 2 0)) = c
    cases a <;> cases b <;> cases c <;> rfl
theorem implStrs (hl : l.length ≤ 1048576) (e : l'.length = l.length) {fuel : Nat} (hf : l.length < fuel) : r44l0 fuel ((l.length : Nat) : Int) 0 l l' = cond (allN l.length (sEq l l')) 1 0 := by
  refine all_loop (G := fun m i => r44l0 m ((l.length : Nat) : Int) i l l') ?_ ?_ hf
  · intro m
    show b44l0 (r44l0 m) _ _ _ _ = _
    unfold b44l0
    rw [dlt_f (Nat.lt_irrefl _)]; rfl
  · intro m i hi
    show b44l0 (r44l0 m) _ _ _ _ = _
    unfold b44l0
    rw [dlt_t hi, dle0, Int.toNat_natCast, blt_t hi, blt_t (by omega), wrap_succ (by omega)]
    show cond true (cond (true && true) (cond (true && true) (cond (!(sEq l l' i)) 0 _) _) _) _ = _
    cases sEq l l' i <;> rfl
theorem implOps (ho : o.length ≤ 1048576) (e : o'.length = o.length) (l' : List ByteArray) {fuel : Nat} (hf : o.length < fuel) : r13l0 fuel ((o.length : Nat) : Int) 0 o l' o' = cond (allN o.length (oEq o o')) 1 0 := by
  refine all_loop (G := fun m i => r13l0 m ((o.length : Nat) : Int) i o l' o') ?_ ?_ hf
  · intro m
    show b13l0 (r13l0 m) _ _ _ _ _ = _
    unfold b13l0
    rw [dlt_f (Nat.lt_irrefl _)]; rfl
  · intro m i hi
    show b13l0 (r13l0 m) _ _ _ _ _ = _
    unfold b13l0 oEq
    rw [dlt_t hi, dle0, Int.toNat_natCast, blt_t hi, blt_t (by omega), wrap_succ (by omega)]
    rw [show r45 (Int.toNat ((o.getD i []).getD 2 0)) (Int.toNat ((o'.getD i []).getD 2 0)) = r41 (Int.toNat ((o.getD i []).getD 2 0)) (Int.toNat ((o'.getD i []).getD 2 0)) from rfl]
    generalize (((o.getD i []).getD 0 0) != ((o'.getD i []).getD 0 0)) = a
    generalize (((o.getD i []).getD 1 0) != ((o'.getD i []).getD 1 0)) = b
    generalize r41 (Int.toNat ((o.getD i []).getD 2 0)) (Int.toNat ((o'.getD i []).getD 2 0)) = c
    cases a <;> cases b <;> cases c <;> rfl
theorem bne_len {a b : Nat} : (((a : Nat) : Int) != ((b : Nat) : Int)) = !decide (b = a) := by
  by_cases h : b = a
  · subst h; simp
  · rw [decide_eq_false h]
    simp only [bne, Bool.not_false, Bool.not_eq_true', beq_eq_false_iff_ne]
    omega
theorem same_both (hl : l.length ≤ 1048576) (ho : o.length ≤ 1048576) : ∃ b, r11 l o l' o' = (0, b) ∧ r13 l o l' o' = (0, b) := by
  unfold r11 r13 r44
  rw [bne_len, bne_len]
  by_cases e1 : l'.length = l.length
  · rw [decide_eq_true e1, implStrs hl e1 (by omega), specStrs hl e1 o o' (by omega)]
    by_cases e2 : o'.length = o.length
    · rw [decide_eq_true e2, implOps ho e2 l' (by omega), specOps ho e2 l l' (by omega)]
      cases allN l.length (sEq l l') <;> cases allN o.length (oEq o o') <;> exact ⟨_, rfl, rfl⟩
    · rw [decide_eq_false e2]
      cases allN l.length (sEq l l') <;> exact ⟨_, rfl, rfl⟩
  · rw [decide_eq_false e1]
    exact ⟨_, rfl, rfl⟩

/-! ### itself -/
theorem float_self (a : Nat) : r20 a a = true := by
  unfold r20
  cases h : feq .f64 a a <;> cases feq .f64 a 0 <;> simp
theorem op_self (a b : Int) (c : Nat) : r74 a b c a b c = true := by
  unfold r74
  rw [float_self]; simp
theorem strs_self (hl : l.length ≤ 1048576) : r46 l l = (0, true) := by
  have key : r46l0 (1000 + l.length + l.length) 0 l l = 1 := by
    have := all_loop (n := l.length) (p := fun _ => true) (yes := 1) (no := 0) (G := fun m i => r46l0 m i l l) (fuel := 1000 + l.length + l.length) ?_ ?_ (by omega)
    · rw [this, show allN l.length (fun _ => true) = true from allN_true.2 (fun _ _ => rfl)]; rfl
    · intro m
      show b46l0 (r46l0 m) _ _ _ = _
      unfold b46l0
      rw [dlt_f (Nat.lt_irrefl _)]; rfl
    · intro m i hi
      show b46l0 (r46l0 m) _ _ _ = _
      unfold b46l0
      rw [dlt_t hi, dle0, Int.toNat_natCast, blt_t hi, wrap_succ (by omega), beq_self_eq_true]
      rfl
  unfold r46
  rw [key, bne_len]; simp [Nat.beq]
theorem ops_self (ho : o.length ≤ 1048576) : r47 o o = (0, true) := by
  have key : r47l0 (1000 + o.length + o.length) 0 o o = 1 := by
    have := all_loop (n := o.length) (p := fun _ => true) (yes := 1) (no := 0) (G := fun m i => r47l0 m i o o) (fuel := 1000 + o.length + o.length) ?_ ?_ (by omega)
    · rw [this, show allN o.length (fun _ => true) = true from allN_true.2 (fun _ _ => rfl)]; rfl
    · intro m
      show b47l0 (r47l0 m) _ _ _ = _
      unfold b47l0
      rw [dlt_f (Nat.lt_irrefl _)]; rfl
    · intro m i hi
      show b47l0 (r47l0 m) _ _ _ = _
      unfold b47l0
      simp only [op_self]
      rw [dlt_t hi, dle0, Int.toNat_natCast, blt_t hi, wrap_succ (by omega)]
      rfl
  unfold r47
  rw [key, bne_len]; simp [Nat.beq]
theorem prog_self (hl : l.length ≤ 1048576) (ho : o.length ≤ 1048576) : r14 l o l o = (0, true) := by
  unfold r14
  rw [strs_self hl, ops_self ho]; rfl

theorem plain3 (x0 : List ByteArray) (x1 : List (List Int)) (x2 : List ByteArray) (x3 : List (List Int)) (s0 : ∀ s ∈ x0, s.size ≤ 9223372036854775807) (l0 : x0.length ≤ 9223372036854775807) (k1 : RowsOk S3 x1) (l1 : x1.length ≤ 9223372036854775807)
    (s2 : ∀ s ∈ x2, s.size ≤ 9223372036854775807) (l2 : x2.length ≤ 9223372036854775807) (k3 : RowsOk S3 x3) (l3 : x3.length ≤ 9223372036854775807) : r3 x0 x1 x2 x3 = (0, true) := by
  unfold r3
  obtain ⟨v, e, hv⟩ := szP s0 l0 l1 (show (0 : Int) ≤ 1048576 by decide) (Int.le_refl _)
  rw [e]
  rcases hv with rfl | ⟨g1, g2, g3, g4⟩
  · rfl
  obtain ⟨v2, e2, hv2⟩ := szP s2 l2 l3 g1 g2
  simp only [e2, show Nat.beq 0 0 = true from rfl, cond_true]
  rw [decide_eq_false (by omega), cond_false]
  rcases hv2 with rfl | ⟨q1, q2, q3, q4⟩
  · rfl
  rw [decide_eq_false (by omega), cond_false]
  rw [copyP k1 g3 g4, copyP k3 q3 q4]
  obtain ⟨b, c1, c2⟩ := same_both (l := x0) (l' := x2) (o := x1) (o' := x3) g3 g4
  simp only [c1, c2, prog_self g3 g4, prog_self q3 q4]
  cases b <;> rfl
end Go.Proofs.Ytfclciebpnnieaa
