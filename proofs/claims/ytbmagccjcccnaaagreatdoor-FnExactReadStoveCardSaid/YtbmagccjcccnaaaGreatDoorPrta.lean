/- Stoves: what the program answers. -/
import Derived.Test.YtbmagccjcccnaaaGreatDoorPrt9
namespace Go.Proofs.YtbmagccjcccnaaaGreatDoor
open Go.Ab
open Go.Lib (decDigits)

section
variable {x : ByteArray} (hx : x.size ≤ 1048576)
include hx
omit hx in
theorem not_empty {n : Nat} (h : Sh x n) : (x.toList == (ByteArray.mk #[]).toList) = false := by
  cases h0 : x.toList == (ByteArray.mk #[]).toList with
  | false => rfl
  | true =>
    exfalso
    have e := empty_of (eq_of_beq h0)
    have := h.len; have := h.n1
    have e2 : (splB 10 x).length = 1 := by rw [splB_eq, e]; rfl
    omega
set_option maxRecDepth 100000 in
theorem impl_flow {n : Nat} (h : Sh x n) (n7 : n ≤ 7) :
    (goodH (hdW x) = false ∧ r34 x = encN) ∨ (goodH (hdW x) = true ∧
      ((∃ R : List (List Int), R.length = n - 1 ∧ (∀ j, j < n - 1 → lineW ((splB 10 x).getD (1 + j) .empty) = some (R.getD j [])) ∧ RowsOk Sh18 R ∧
        r34 x = cond (okL R && sc (num (hdW x) 1) (num (hdW x) 2) (pk ((hdW x).getD 4 .empty) 0) (pInt ((hdW x).getD 5 .empty)) (num (hdW x) 3))
          (cond ((mkB (textS (num (hdW x) 1) (num (hdW x) 2) (pk ((hdW x).getD 4 .empty) 0) (pInt ((hdW x).getD 5 .empty)) (num (hdW x) 3) R)).toList == x.toList) (encS (num (hdW x) 1) (num (hdW x) 2) (pk ((hdW x).getD 4 .empty) 0) (pInt ((hdW x).getD 5 .empty)) (num (hdW x) 3) R) encN) encN) ∨
      ((∃ j, j < n - 1 ∧ lineW ((splB 10 x).getD (1 + j) .empty) = none) ∧ r34 x = encN))) := by
  have h0 := not_empty h
  have n1 := h.n1
  have hn : (splB 10 x).length - 1 = n := by have := h.len; omega
  have hl : (((splB 10 x).getD n .empty).toList == (ByteArray.mk #[]).toList) = true := by rw [h.last]; exact beq_self_eq_true _
  have e68 := lines_impl hx h0
  rw [hn, hl] at e68
  have hsz := splB_sizes (c := 10) hx
  have e40 : r40 ((splB 10 x).getD 0 .empty) = (0, (hdW x).length, hdW x) := by
    unfold r40 w40
    rw [blt_t (by have := hsz 0; omega)]; rfl
  have hsW : ∀ j, ((hdW x).getD j .empty).size ≤ 1048576 := splB_sizes (hsz 0)
  have h1L : 1 ≤ (hdW x).length := splB_ne
  obtain ⟨L, hL⟩ : ∃ L, (hdW x).length = L := ⟨_, rfl⟩
  rw [hL] at e40 h1L
  have k1 : r42 (min 1 L) (L - min 1 L) (bs (hdW x) 0) (hdW x) = (0, num (hdW x) 1, min 2 L, L - min 2 L, bs (hdW x) 1) := stove_number hL 0
  have k2 : r42 (min 2 L) (L - min 2 L) (bs (hdW x) 1) (hdW x) = (0, num (hdW x) 2, min 3 L, L - min 3 L, bs (hdW x) 2) := stove_number hL 1
  have k3 : r42 (min 3 L) (L - min 3 L) (bs (hdW x) 2) (hdW x) = (0, num (hdW x) 3, min 4 L, L - min 4 L, bs (hdW x) 3) := stove_number hL 2
  unfold r34 w34
  extract_lets c1 c2 c3 c4 c5 c6 c7 c8 c9 ca cb cc cd
  have d1 : c1 = (0, min 1 L, L - min 1 L, bs (hdW x) 0) := by simp only [c1, e68, e40]; exact is_stove hL h1L
  clear_value c1
  have d2 : c2 = (0, num (hdW x) 1, min 2 L, L - min 2 L, bs (hdW x) 1) := by simp only [c2, e68, e40, d1, k1]
  clear_value c2
  have d3 : c3 = (0, num (hdW x) 2, min 3 L, L - min 3 L, bs (hdW x) 2) := by simp only [c3, e68, e40, d2, k2]
  clear_value c3
  have d4 : c4 = (0, num (hdW x) 3, min 4 L, L - min 4 L, bs (hdW x) 3) := by simp only [c4, e68, e40, d3, k3]
  clear_value c4
  -- the name
  have d5 : c5 = if 4 < L then (0, (hdW x).getD 4 .empty, 5, L - 5, bs (hdW x) 3) else (0, ByteArray.mk #[], L, 0, true) := by
    simp only [c5, e68, e40, d4]
    by_cases h4 : 4 < L
    · rw [if_pos h4, show min 4 L = 4 by omega, next_some (by omega) (by omega), show L - 4 - 1 = L - 5 by omega]
    · rw [if_neg h4, show min 4 L = L by omega, Nat.sub_self, next_none]
  clear_value c5
  have d6 : c6 = (0, pk (if 4 < L then (hdW x).getD 4 .empty else ByteArray.mk #[]) 0) := by
    have hw : c5.2.1 = if 4 < L then (hdW x).getD 4 .empty else ByteArray.mk #[] := by rw [d5]; split <;> rfl
    rw [← hw]
    refine four_loop (w := c5.2.1) (G := fun m i s => r34l0 m x 0 ((r68 x).2.1) (c5.2.1) i 0 0 0 ((r68 x).2.2.2) (c5.2.2.1) (c5.2.2.2.1) (c5.2.2.2.2) (c2.2.1) (c3.2.1) s (c4.2.1) (ByteArray.mk #[99, 111, 108, 100]) (ByteArray.mk #[107, 105, 110, 100, 108, 101, 100]) (ByteArray.mk #[98, 117, 114, 110, 105, 110, 103]) (ByteArray.mk #[101, 109, 98, 101, 114, 115]) _) ?_ ?_ (by omega) 0
    · intro m i s hi
      show b34l0 (r34l0 m) _ _ _ _ _ _ _ _ _ _ _ _ _ _ _ _ _ _ _ _ _ = _
      unfold b34l0
      rw [decide_eq_true (show ((i : Nat) : Int) < 4 by omega), dle0, Int.toNat_natCast, blt_t hi, wrap_succ (by omega), wrap8 hi]
      unfold hit
      cases (STATES.getD i .empty).toList == c5.2.1.toList <;> rfl
    · intro m s
      show b34l0 (r34l0 m) _ _ _ _ _ _ _ _ _ _ _ _ _ _ _ _ _ _ _ _ _ = _
      unfold b34l0
      rfl
  clear_value c6
  have d8 : c7.1 = 0 ∧ c8 = goodH (hdW x) ∧ (goodH (hdW x) = true → c7.2.1 = pInt ((hdW x).getD 5 .empty) ∧ 4 < L) := by
    have e7 : c7 = r71 (c5.2.2.1) (c5.2.2.2.1) (c5.2.2.2.2) (hdW x) := by simp only [c7, e68, e40]
    have e8 : c8 = r43 (c7.2.2.1) (c7.2.2.2.1) (c7.2.2.2.2) (hdW x) := by simp only [c8, e68, e40]
    clear_value c7 c8
    rw [e8]
    unfold goodH
    rw [hL]
    by_cases h4 : 4 < L
    · rw [if_pos h4] at d5
      by_cases h5 : 5 < L
      · have : c7 = (0, pInt ((hdW x).getD 5 .empty), 6, L - 6, bs (hdW x) 3 || !(pOk ((hdW x).getD 5 .empty))) := by
          rw [e7, d5]
          show r71 5 (L - 5) (bs (hdW x) 3) (hdW x) = _
          unfold r71 w71
          rw [next_some (by omega) (by omega)]
          simp only
          rw [Nat.ble_eq_true_of_le (by have := hsW 5; omega), show L - 5 - 1 = L - 6 by omega]
          cases bs (hdW x) 3 <;> rfl
        rw [this]
        refine ⟨rfl, ?_, fun _ => ⟨rfl, h4⟩⟩
        unfold r43 w43
        by_cases h6 : L = 6
        · subst h6
          rw [decide_eq_true rfl]
          cases bs (hdW x) 3 <;> cases pOk ((hdW x).getD 5 .empty) <;> rfl
        · rw [decide_eq_false h6]
          show cond (!(bs (hdW x) 3 || !(pOk ((hdW x).getD 5 .empty)))) (((L - 6 : Nat) : Int) == 0) false = _
          rw [show (((L - 6 : Nat) : Int) == 0) = false from beq_eq_false_iff_ne.2 (by omega)]
          cases bs (hdW x) 3 <;> cases pOk ((hdW x).getD 5 .empty) <;> rfl
      · have h5' : L = 5 := by omega
        have : c7 = (0, pInt (ByteArray.mk #[]), 5, 0, true) := by
          rw [e7, d5, h5']
          rfl
        rw [this, decide_eq_false (show ¬ L = 6 by omega)]
        exact ⟨rfl, rfl, fun h => by cases h⟩
    · rw [if_neg h4] at d5
      have : c7 = (0, pInt (ByteArray.mk #[]), L, 0, true) := by
        rw [e7, d5]
        rfl
      rw [this, decide_eq_false (show ¬ L = 6 by omega)]
      exact ⟨rfl, rfl, fun h => by cases h⟩
  obtain ⟨z7, z8, z9⟩ := d8
  cases hg : goodH (hdW x) with
  | false =>
    refine .inl ⟨rfl, ?_⟩
    rw [hg] at z8
    clear_value c7 c8 c9 ca cb cc cd
    rw [e68]
    simp only [e40, d1, d2, d3, d4, z7, z8]
    rw [d5, d6, decide_eq_false (show ¬ ((n : Nat) : Int) < 1 by omega), decide_eq_false (show ¬ ((n : Nat) : Int) > 7 by omega), blt_t (show 0 < n by omega), blt_t (show 0 < (splB 10 x).length by omega)]
    split <;> rfl
  | true =>
    refine .inr ⟨rfl, ?_⟩
    obtain ⟨z9, h4⟩ := z9 hg
    rw [hg] at z8
    rw [if_pos h4] at d5 d6
    have e9 : c9 = r34l1b x 1 (n - 1) (((n - 1 : Nat)) : Int) 0 0 0 (num (hdW x) 1) (num (hdW x) 2) (pk ((hdW x).getD 4 .empty) 0) (pInt ((hdW x).getD 5 .empty)) (num (hdW x) 3) (splB 10 x) := by simp only [c9, e68, d2, d3, d4, d6, z9]
    have ea : ca = r72 (num (hdW x) 1) (num (hdW x) 2) (pk ((hdW x).getD 4 .empty) 0) (pInt ((hdW x).getD 5 .empty)) (num (hdW x) 3) (c9.2.2) := by simp only [ca, d2, d3, d4, d6, z9]
    have eb : cb = r73 (num (hdW x) 1) (num (hdW x) 2) (pk ((hdW x).getD 4 .empty) 0) (pInt ((hdW x).getD 5 .empty)) (num (hdW x) 3) (c9.2.2) := by simp only [cb, d2, d3, d4, d6, z9]
    have ec : cc = r72b (num (hdW x) 1) (num (hdW x) 2) (pk ((hdW x).getD 4 .empty) 0) (pInt ((hdW x).getD 5 .empty)) (num (hdW x) 3) := by simp only [cc, d2, d3, d4, d6, z9]
    have ed : cd = r73b (num (hdW x) 1) (num (hdW x) 2) (pk ((hdW x).getD 4 .empty) 0) (pInt ((hdW x).getD 5 .empty)) (num (hdW x) 3) := by simp only [cd, d2, d3, d4, d6, z9]
    clear_value c7 c8 c9 ca cb cc cd
    rw [e68]
    simp only [e40, d1, d2, d3, d4, d5, d6, z7, z8, z9]
    rw [decide_eq_false (show ¬ ((n : Nat) : Int) < 1 by omega), decide_eq_false (show ¬ ((n : Nat) : Int) > 7 by omega), blt_t (show 0 < n by omega), blt_t (show 0 < (splB 10 x).length by omega), Nat.ble_eq_true_of_le n1, Nat.ble_eq_true_of_le (Nat.le_refl n)]
    have hb := num_lt (hdW x) 1
    have hd := num_lt (hdW x) 2
    have hu := num_lt (hdW x) 3
    generalize num (hdW x) 1 = b at *
    generalize num (hdW x) 2 = d at *
    generalize num (hdW x) 3 = u at *
    generalize pk ((hdW x).getD 4 .empty) 0 = st at *
    generalize pInt ((hdW x).getD 5 .empty) = a at *
    rcases logs_impl (x := x) (n := n - 1) (y1 := 0) (y2 := 0) (y3 := 0) (y4 := b) (y5 := d) (y6 := st) (y7 := a) (y8 := u) (S := splB 10 x) hsz (by omega) (by have := h.len; omega) with ⟨R, g1, g2, g3⟩ | ⟨g1, q, g3⟩
    · have hR : RowsOk Sh18 R := by
        intro r hr
        obtain ⟨j, hj, rfl⟩ := List.getElem_of_mem hr
        have e := g2 j (by omega)
        rcases (line_cases (hsz (1 + j))).2.2 with ⟨r', q1, _, _, q4, _, _⟩ | ⟨q1, _⟩
        · rw [q1] at e
          have := Option.some.inj e
          rw [List.getD_eq_getElem?_getD, List.getElem?_eq_getElem hj] at this
          have e2 : r' = R[j] := this
          rw [← e2]; exact q4
        · rw [q1] at e; cases e
      refine .inl ⟨R, g1, g2, hR, ?_⟩
      have hl6 : R.length ≤ 6 := by omega
      have scf : sc b d st a u = true → (0 ≤ st ∧ st ≤ 3) ∧ 0 ≤ a ∧ a ≤ 1000000 := fun hsc => by
        unfold sc at hsc
        simp only [Bool.and_eq_true, decide_eq_true_eq] at hsc
        omega
      rw [e9, g3]
      by_cases hk : n - 1 = 0
      · have hR0 : R = [] := List.length_eq_zero_iff.1 (by omega)
        subst hR0
        rw [if_pos hk, ec, validI0, ed]
        have ok0 : okL [] = true := rfl
        rw [ok0, Bool.true_and]
        cases hsc : sc b d st a u with
        | false => rfl
        | true =>
          obtain ⟨hs, ha⟩ := scf hsc
          rw [text0 hb hd hu hs ha]
          cases (mkB (textS b d st a u [])).toList == x.toList <;> rfl
      · rw [if_neg hk] at g3 ⊢
        have e92 : c9.2.2 = R := by rw [e9, g3]
        rw [ea, eb, e92, validI (by omega)]
        rw [encS_ne (by omega)]
        cases hv : okL R && sc b d st a u with
        | false => rfl
        | true =>
          have hsc : sc b d st a u = true := by
            rw [Bool.and_eq_true] at hv; exact hv.2
          obtain ⟨hs, ha⟩ := scf hsc
          rw [textN hb hd hu hs ha hR hl6]
          cases (mkB (textS b d st a u R)).toList == x.toList <;> rfl
    · refine .inr ⟨g1, ?_⟩
      rw [e9]
      rcases g3 with g3 | g3 <;> rw [g3] <;> rfl
end
end Go.Proofs.YtbmagccjcccnaaaGreatDoor
