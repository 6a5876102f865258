/- Chimneys are read from their texts: the program and the reference agree. -/
import Derived.Test.YtffpnkkhcgjmfaaGreatDoorPrm7
namespace Go.Proofs.YtffpnkkhcgjmfaaGreatDoor
open Go.Ab

/-! ### lines, one after the other -/
theorem read_loop {G : Nat → Int → List (List Int) → Nat × List (List Int) × List (List Int)} {n : Nat} {P : Nat → Option (List Int)}
    (he : ∀ m o, G (m + 1) (n : Int) o = (3, [], []))
    (h1 : ∀ m i o, i < n → o.length ≤ 100 → G (m + 1) (i : Int) o = match P i with
      | none => (0, [], [])
      | some r => comb (o ++ [r]) (G m ((i + 1 : Nat) : Int) (o ++ [r]))) :
    ∀ (k i : Nat) (o : List (List Int)) (fuel : Nat), i + k = n → k < fuel → o.length + k ≤ 100 →
      (∃ R : List (List Int), R.length = k ∧ (∀ j, j < k → P (i + j) = some (R.getD j [])) ∧ G fuel (i : Int) o = (if k = 0 then (3, [], []) else (2, [], o ++ R))) ∨
      ((∃ j, j < k ∧ P (i + j) = none) ∧ ∃ q, G fuel (i : Int) o = (0, q, []) ∨ G fuel (i : Int) o = (1, q, [])) := by
  intro k
  induction k with
  | zero =>
    intro i o fuel h hf ho
    obtain ⟨m, rfl⟩ : ∃ m, fuel = m + 1 := ⟨fuel - 1, by omega⟩
    obtain rfl : i = n := by omega
    exact .inl ⟨[], rfl, fun j hj => by omega, he m o⟩
  | succ k ih =>
    intro i o fuel h hf ho
    obtain ⟨m, rfl⟩ : ∃ m, fuel = m + 1 := ⟨fuel - 1, by omega⟩
    rw [h1 m i o (by omega) (by omega)]
    cases hP : P i with
    | none => exact .inr ⟨⟨0, by omega, hP⟩, [], .inl rfl⟩
    | some r =>
      rcases ih (i + 1) (o ++ [r]) m (by omega) (by omega) (by rw [List.length_append]; simp; omega) with ⟨R, g1, g2, g3⟩ | ⟨⟨j, g1, g2⟩, q, g3⟩
      · refine .inl ⟨r :: R, by simp [g1], fun j hj => ?_, ?_⟩
        · cases j with
          | zero => exact hP
          | succ j => rw [show i + (j + 1) = i + 1 + j by omega, g2 j (by omega)]; rfl
        · show comb (o ++ [r]) (G m ((i + 1 : Nat) : Int) (o ++ [r])) = _
          rw [g3, if_neg (show ¬ k + 1 = 0 by omega)]
          by_cases hk : k = 0
          · subst hk
            have : R = [] := List.length_eq_zero_iff.1 g1
            subst this
            rw [if_pos rfl]; rfl
          · rw [if_neg hk]
            show (2, ([] : List (List Int)), (o ++ [r]) ++ R) = _
            rw [List.append_assoc]; rfl
      · refine .inr ⟨⟨j + 1, by omega, by rw [show i + (j + 1) = i + 1 + j by omega]; exact g2⟩, ?_⟩
        rcases g3 with g3 | g3
        · exact ⟨o ++ [r], .inr (by show comb (o ++ [r]) (G m ((i + 1 : Nat) : Int) (o ++ [r])) = _; rw [g3]; rfl)⟩
        · exact ⟨q, .inr (by show comb (o ++ [r]) (G m ((i + 1 : Nat) : Int) (o ++ [r])) = _; rw [g3]; rfl)⟩
/-- a text of so many lines -/
structure Sh (x : ByteArray) (n : Nat) : Prop where
  len : (splB 10 x).length = n + 1
  n1 : 1 ≤ n
  n6 : n ≤ 6
  last : ((splB 10 x).getD n .empty).toList = (ByteArray.mk #[]).toList
/-- rows that are a valid chimney -/
structure V (c : List (List Int)) : Prop where
  rows : RowsOk Sh5 c
  len : c.length ≤ 1048576
  val : r16 c = (0, true)
theorem V.ok {c : List (List Int)} (h : V c) : ChOk c ∧ r34 c = (0, true) := by
  obtain ⟨b, v1, v2, v3⟩ := valid_both h.rows h.len
  have hb : b = true := by
    have := h.val
    rw [v2] at this
    exact congrArg Prod.snd this
  subst hb
  exact ⟨v3 rfl, v1⟩
theorem no16 : r16 [] = (0, false) := rfl
theorem no34 : r34 [] = (0, false) := rfl
theorem empty_of {x : ByteArray} (h : x.toList = (ByteArray.mk #[]).toList) : x.data.toList = [] := by
  rw [toList_eq, toList_eq] at h; exact h
section
variable {x : ByteArray} (hx : x.size ≤ 1048576)
theorem line_size (hx : x.size ≤ 1048576) (i : Nat) : ((splB 10 x).getD i .empty).size ≤ 1048576 := by
  by_cases hj : i < (splB 10 x).length
  · have h2 := join_splitL 10 x.data.toList
    rw [splB_eq] at hj ⊢
    rw [List.length_map] at hj
    rw [List.getD_eq_getElem?_getD, List.getElem?_map, List.getElem?_eq_getElem hj]
    show (mkB ((splitL 10 x.data.toList)[i])).size ≤ _
    rw [mkB_size]
    have : ∀ (L : List (List UInt8)) (l : List UInt8), l ∈ L → l.length ≤ (joinL 10 L).length := by
      intro L l
      induction L with
      | nil => intro h; cases h
      | cons y r ih =>
        intro h
        by_cases hr : r = []
        · subst hr
          rcases List.mem_cons.1 h with h | h
          · subst h; simp [joinL]
          · cases h
        · rw [joinL_cons 10 y hr, List.length_append, List.length_cons]
          rcases List.mem_cons.1 h with h | h
          · subst h; omega
          · have := ih h; omega
    have h3 := this _ _ (List.getElem_mem hj)
    rw [h2] at h3
    have := size_eq x
    omega
  · rw [List.getD_eq_getElem?_getD, List.getElem?_eq_none (by omega)]
    show ByteArray.empty.size ≤ _
    decide
theorem splB_ne : 1 ≤ (splB 10 x).length := by
  rw [splB_eq, List.length_map]
  exact List.length_pos_iff.2 (splitL_ne 10 x.data.toList)
theorem one_line (h : (splB 10 x).length = 1) : (splB 10 x).getD 0 .empty = x := by
  rw [splB_eq, List.length_map] at h
  obtain ⟨a, ha⟩ := List.length_eq_one_iff.1 h
  have hj := join_splitL 10 x.data.toList
  rw [ha] at hj
  rw [splB_eq, ha]
  show mkB a = x
  rw [← mkB_of x, ← hj]; rfl
/-! ### the program -/
include hx
theorem lines_impl (h0 : (x.toList == (ByteArray.mk #[]).toList) = false) : r35 x = (1, (splB 10 x).length - 1, (((splB 10 x).getD ((splB 10 x).length - 1) .empty).toList == (ByteArray.mk #[]).toList), splB 10 x) := by
  have h1 := splB_ne (x := x)
  have h2 := splB_len (c := 10) (s := x)
  unfold r35 w35
  have hw : IntKind.i64.wrap ((((splB 10 x).length : Nat) : Int) - 1) = (((splB 10 x).length - 1 : Nat) : Int) := by rw [wrap_i64 (by omega) (by omega)]; omega
  rw [h0, hw, Int.toNat_natCast, dle0, Nat.ble_eq_true_of_le (Nat.zero_le _), Nat.ble_eq_true_of_le (show (splB 10 x).length - 1 ≤ (splB 10 x).length by omega), blt_t (show (splB 10 x).length - 1 < (splB 10 x).length by omega), blt_t (show x.size < 4294967281 by omega), Nat.zero_add, blt_t (show (splB 10 x).length - 1 < (splB 10 x).length by omega)]
  rfl
theorem impl_no (h : ¬ ∃ n, Sh x n) : r7 x = (0, []) := by
  unfold r7 w7
  cases h0 : x.toList == (ByteArray.mk #[]).toList with
  | true =>
    have : r35 x = (0, 0, false, []) := by unfold r35 w35; rw [h0]; rfl
    rw [this, no16]; rfl
  | false =>
    rw [lines_impl hx h0]
    cases hl : ((splB 10 x).getD ((splB 10 x).length - 1) .empty).toList == (ByteArray.mk #[]).toList with
    | false => rfl
    | true =>
      by_cases h6 : (splB 10 x).length - 1 > 6
      · simp only
        rw [decide_eq_true (show (((splB 10 x).length - 1 : Nat) : Int) > 6 by omega)]; rfl
      · exfalso
        have h1 := splB_ne (x := x)
        by_cases hn : (splB 10 x).length = 1
        · have := one_line hn
          rw [hn, show 1 - 1 = 0 from rfl, this, h0] at hl
          cases hl
        · exact h ⟨(splB 10 x).length - 1, by omega, by omega, by omega, eq_of_beq hl⟩
theorem loop_impl {n : Nat} (h : Sh x n) {fuel : Nat} (hf : n < fuel) :
    (∃ R : List (List Int), R.length = n ∧ (∀ j, j < n → lineI ((splB 10 x).getD j .empty) = some (R.getD j [])) ∧ r7l0b fuel x 0 n (n : Int) 0 [] (splB 10 x) = (2, [], R)) ∨
    ((∃ j, j < n ∧ lineI ((splB 10 x).getD j .empty) = none) ∧ ∃ q, r7l0b fuel x 0 n (n : Int) 0 [] (splB 10 x) = (0, q, []) ∨ r7l0b fuel x 0 n (n : Int) 0 [] (splB 10 x) = (1, q, [])) := by
  have n6 := h.n6; have n1 := h.n1; have len := h.len
  have := read_loop (G := fun m i o => r7l0b m x 0 n (n : Int) i o (splB 10 x)) (n := n) (P := fun i => lineI ((splB 10 x).getD i .empty))
    (fun m o => by show b7l0b (r7l0b m) _ _ _ _ _ _ _ = _; unfold b7l0b w7l0b; rw [dlt_f (Nat.lt_irrefl _)]; rfl)
    (fun m i o hi ho => round_impl (by omega) hi (by omega) ho (line_size hx i)) n 0 [] fuel (by omega) hf (by simp; omega)
  rcases this with ⟨R, g1, g2, g3⟩ | ⟨⟨j, g1, g2⟩, q, g3⟩
  · rw [if_neg (by omega)] at g3
    exact .inl ⟨R, g1, fun j hj => by have := g2 j hj; rwa [Nat.zero_add] at this, g3⟩
  · rw [Nat.zero_add] at g2
    exact .inr ⟨⟨j, g1, g2⟩, q, g3⟩
theorem impl_yes {n : Nat} (h : Sh x n) : (∃ c, V c ∧ c.length = n ∧ (∀ j, j < n → lineI ((splB 10 x).getD j .empty) = some (c.getD j [])) ∧ x = mkB (textC c) ∧ r7 x = (1, c)) ∨
    (r7 x = (0, []) ∧ ¬ ∃ c, V c ∧ c.length = n ∧ (∀ j, j < n → lineI ((splB 10 x).getD j .empty) = some (c.getD j [])) ∧ x = mkB (textC c)) := by
  have h0 : (x.toList == (ByteArray.mk #[]).toList) = false := by
    cases h0 : x.toList == (ByteArray.mk #[]).toList with
    | false => rfl
    | true =>
      exfalso
      have e := empty_of (eq_of_beq h0)
      have := h.len; have := h.n1
      have e2 : (splB 10 x).length = 1 := by rw [splB_eq, e]; rfl
      omega
  have hn : (splB 10 x).length - 1 = n := by have := h.len; omega
  have n6 := h.n6; have n1 := h.n1
  have hl : (((splB 10 x).getD n .empty).toList == (ByteArray.mk #[]).toList) = true := by rw [h.last]; exact beq_self_eq_true _
  have e35 := lines_impl hx h0
  rw [hn, hl] at e35
  rcases loop_impl hx h (fuel := 1000 + (splB 10 x).length + 0 + x.size) (by have := h.len; omega) with ⟨R, g1, g2, g3⟩ | ⟨⟨j, g1, g2⟩, q, g3⟩
  · have hR : RowsOk Sh5 R := by
      intro r hr
      obtain ⟨j, hj, rfl⟩ := List.getElem_of_mem hr
      have := rowI_ok (g2 j (by omega))
      rw [List.getD_eq_getElem?_getD, List.getElem?_eq_getElem hj] at this
      exact this
    obtain ⟨b, v1, v2, v3⟩ := valid_both hR (by omega)
    have e7 : r7 x = cond b (cond (!((mkB (textC R)).toList == x.toList)) (0, []) (1, R)) (0, []) := by
      unfold r7 w7
      rw [e35]
      simp only
      rw [g3]
      simp only
      rw [v2, decide_eq_false (show ¬ ((n : Nat) : Int) > 6 by omega)]
      cases b with
      | false => rfl
      | true => rw [text_chimney (v3 rfl)]; rfl
    rw [e7]
    have uniq : ∀ c : List (List Int), c.length = n → (∀ j, j < n → lineI ((splB 10 x).getD j .empty) = some (c.getD j [])) → c = R := by
      intro c c1 c2
      apply List.ext_getElem (by omega)
      intro j hj1 hj2
      have e1 := c2 j (by omega)
      rw [g2 j (by omega)] at e1
      have e2 := Option.some.inj e1
      rw [List.getD_eq_getElem?_getD, List.getElem?_eq_getElem hj2, List.getD_eq_getElem?_getD, List.getElem?_eq_getElem hj1] at e2
      exact e2.symm
    cases b with
    | false =>
      refine .inr ⟨rfl, ?_⟩
      rintro ⟨c, c1, c2, c3, _⟩
      have := uniq c c2 c3
      subst this
      rw [c1.val] at v2
      cases v2
    | true =>
      cases ht : (mkB (textC R)).toList == x.toList with
      | true =>
        refine .inl ⟨R, ⟨hR, by omega, v2⟩, g1, g2, ?_, rfl⟩
        have := eq_of_beq ht
        rw [toList_eq, toList_eq, mkB_data] at this
        rw [← mkB_of x, ← this]
      | false =>
        refine .inr ⟨rfl, ?_⟩
        rintro ⟨c, c1, c2, c3, c4⟩
        have := uniq c c2 c3
        subst this
        rw [← c4, beq_self_eq_true] at ht
        cases ht
  · refine .inr ⟨?_, ?_⟩
    · unfold r7 w7
      rw [e35]
      simp only
      rw [decide_eq_false (show ¬ ((n : Nat) : Int) > 6 by omega)]
      rcases g3 with g3 | g3 <;> rw [g3] <;> rfl
    · rintro ⟨c, _, _, c3, _⟩
      rw [c3 j g1] at g2
      cases g2
end
end Go.Proofs.YtffpnkkhcgjmfaaGreatDoor
