/- The plain law of ReadChimney. -/
import Derived.Test.YtffpnkkhcgjmfaaGreatDoorPrm8
namespace Go.Proofs.YtffpnkkhcgjmfaaGreatDoor
open Go.Ab

section
variable {x : ByteArray} (hx : x.size ≤ 1048576)
include hx
theorem cut10 : (2 ≤ (splB 10 x).length ∧ r31 x 10 = (0, splB 10 x, ByteArray.empty)) ∨ (splB 10 x = [x] ∧ r31 x 10 = (1, [], x)) := cut_eq x 10 hx
theorem spec_no (h : ¬ ∃ n, Sh x n) : r6 x = (0, 5, []) := by
  unfold r6
  have h2 := splB_len (c := 10) (s := x)
  rcases cut10 hx with ⟨h1, e⟩ | ⟨h1, e⟩
  · rw [e]
    simp only
    by_cases h7 : (splB 10 x).length > 7
    · rw [decide_eq_true (show (((splB 10 x).length : Nat) : Int) > 7 by omega)]; rfl
    · have hw : IntKind.i64.wrap ((((splB 10 x).length : Nat) : Int) - 1) = (((splB 10 x).length - 1 : Nat) : Int) := by rw [wrap_i64 (by omega) (by omega)]; omega
      rw [decide_eq_false (show ¬ (((splB 10 x).length : Nat) : Int) > 7 by omega), hw, Int.toNat_natCast, dle0, blt_t (show (splB 10 x).length - 1 < (splB 10 x).length by omega)]
      cases hl : ((splB 10 x).getD ((splB 10 x).length - 1) .empty).toList == (ByteArray.mk #[]).toList with
      | false => rfl
      | true => exact absurd ⟨(splB 10 x).length - 1, by omega, by omega, by omega, eq_of_beq hl⟩ h
  · rw [e]
    simp only
    cases hl : x.toList == (ByteArray.mk #[]).toList with
    | false => rfl
    | true =>
      have e3 : r6l0 (1000 + 0 + 1) 1 0 [x] [] = (3, [], []) := by
        show b6l0 (r6l0 1000) _ _ _ _ = _
        unfold b6l0
        rw [show IntKind.i64.wrap (1 - 1) = 0 from by decide]; rfl
      rw [e3, no34]; rfl
theorem loop_spec {n : Nat} (h : Sh x n) {fuel : Nat} (hf : n < fuel) :
    (∃ R : List (List Int), R.length = n ∧ (∀ j, j < n → lineS ((splB 10 x).getD j .empty) = some (R.getD j [])) ∧ r6l0 fuel ((n + 1 : Nat) : Int) 0 (splB 10 x) [] = (2, [], R)) ∨
    ((∃ j, j < n ∧ lineS ((splB 10 x).getD j .empty) = none) ∧ ∃ q, r6l0 fuel ((n + 1 : Nat) : Int) 0 (splB 10 x) [] = (0, q, []) ∨ r6l0 fuel ((n + 1 : Nat) : Int) 0 (splB 10 x) [] = (1, q, [])) := by
  have n6 := h.n6; have n1 := h.n1; have len := h.len
  have := read_loop (G := fun m i o => r6l0 m ((n + 1 : Nat) : Int) i (splB 10 x) o) (n := n) (P := fun i => lineS ((splB 10 x).getD i .empty))
    (fun m o => by
      show b6l0 (r6l0 m) _ _ _ _ = _
      unfold b6l0
      have hwr : IntKind.i64.wrap (((n + 1 : Nat) : Int) - 1) = (n : Int) := by rw [wrap_i64 (by omega) (by omega)]; omega
      rw [hwr, dlt_f (Nat.lt_irrefl _)]; rfl)
    (fun m i o hi ho => round_spec (by omega) hi (by omega) ho (line_size hx i)) n 0 [] fuel (by omega) hf (by simp; omega)
  rcases this with ⟨R, g1, g2, g3⟩ | ⟨⟨j, g1, g2⟩, q, g3⟩
  · rw [if_neg (by omega)] at g3
    exact .inl ⟨R, g1, fun j hj => by have := g2 j hj; rwa [Nat.zero_add] at this, g3⟩
  · rw [Nat.zero_add] at g2
    exact .inr ⟨⟨j, g1, g2⟩, q, g3⟩
omit hx in
theorem uniq {f : Nat → Option (List Int)} {n : Nat} {c R : List (List Int)} (c1 : c.length = n) (c2 : ∀ j, j < n → f j = some (c.getD j [])) (g1 : R.length = n) (g2 : ∀ j, j < n → f j = some (R.getD j [])) : c = R := by
  apply List.ext_getElem (by omega)
  intro j hj1 hj2
  have e1 := c2 j (by omega)
  rw [g2 j (by omega)] at e1
  have e2 := Option.some.inj e1
  rw [List.getD_eq_getElem?_getD, List.getElem?_eq_getElem hj2, List.getD_eq_getElem?_getD, List.getElem?_eq_getElem hj1] at e2
  exact e2.symm
theorem spec_yes {n : Nat} (h : Sh x n) : (∃ c, V c ∧ c.length = n ∧ (∀ j, j < n → lineS ((splB 10 x).getD j .empty) = some (c.getD j [])) ∧ r6 x = (0, 0, c)) ∨
    (r6 x = (0, 5, []) ∧ ¬ ∃ c, V c ∧ c.length = n ∧ (∀ j, j < n → lineS ((splB 10 x).getD j .empty) = some (c.getD j []))) := by
  have n6 := h.n6; have n1 := h.n1; have len := h.len
  have e31 : r31 x 10 = (0, splB 10 x, ByteArray.empty) := by
    rcases cut10 hx with ⟨_, e⟩ | ⟨h1, _⟩
    · exact e
    · rw [h1] at len
      have : 1 = n + 1 := len
      omega
  have hw : IntKind.i64.wrap (((n + 1 : Nat) : Int) - 1) = ((n : Nat) : Int) := by rw [wrap_i64 (by omega) (by omega)]; omega
  have hl : (((splB 10 x).getD n .empty).toList == (ByteArray.mk #[]).toList) = true := by rw [h.last]; exact beq_self_eq_true _
  have e6 : r6 x = (fun p : Nat × List (List Int) × List (List Int) => cond (Nat.beq p.1 0) (0, 5, []) (cond (Nat.beq p.1 1) (0, 5, []) (cond (Nat.beq p.1 2) (cond (Nat.beq ((r34 p.2.2).1) 0) (cond (!((r34 p.2.2).2)) (0, 5, []) (0, 0, p.2.2)) (1, 0, [])) (cond (Nat.beq p.1 3) (cond (Nat.beq ((r34 ([] : List (List Int))).1) 0) (cond (!((r34 ([] : List (List Int))).2)) (0, 5, []) (0, 0, [])) (1, 0, [])) (1, 0, []))))) (r6l0 (1000 + 0 + (n + 1)) ((n + 1 : Nat) : Int) 0 (splB 10 x) []) := by
    unfold r6
    rw [e31]
    simp only
    rw [len, hw, Int.toNat_natCast, hl, decide_eq_false (show ¬ (((n + 1 : Nat) : Nat) : Int) > 7 by omega), dle0, blt_t (show n < n + 1 by omega)]
    rfl
  rcases loop_spec hx h (fuel := 1000 + 0 + (n + 1)) (by omega) with ⟨R, g1, g2, g3⟩ | ⟨⟨j, g1, g2⟩, q, g3⟩
  · have hR : RowsOk Sh5 R := by
      intro r hr
      obtain ⟨j, hj, rfl⟩ := List.getElem_of_mem hr
      have := (rowS_text (g2 j (by omega))).1
      rw [List.getD_eq_getElem?_getD, List.getElem?_eq_getElem hj] at this
      exact this
    obtain ⟨b, v1, v2, v3⟩ := valid_both hR (by omega)
    rw [g3] at e6
    rw [e6]
    simp only
    rw [v1]
    cases b with
    | false =>
      refine .inr ⟨rfl, ?_⟩
      rintro ⟨c, c1, c2, c3⟩
      have := uniq c2 c3 g1 g2
      subst this
      rw [c1.val] at v2
      cases v2
    | true => exact .inl ⟨R, ⟨hR, by omega, v2⟩, g1, g2, rfl⟩
  · refine .inr ⟨?_, ?_⟩
    · rw [e6]
      rcases g3 with g3 | g3 <;> rw [g3] <;> rfl
    · rintro ⟨c, _, _, c3⟩
      rw [c3 j g1] at g2
      cases g2
end
/-! ### a chimney's text is cut into its lines, and lines make the text -/
theorem ok_no {c : List (List Int)} (ok : ChOk c) : ∀ l ∈ (List.range' 0 c.length).map (ln c), (10 : UInt8) ∉ l := by
  intro l hl
  rw [List.mem_map] at hl
  obtain ⟨i, hi, rfl⟩ := hl
  rw [List.mem_range'_1] at hi
  exact lnR_no (into_ok ok (by omega))
theorem split_of {c : List (List Int)} (ok : ChOk c) : splB 10 (mkB (textC c)) = ((List.range' 0 c.length).map (ln c) ++ [[]]).map mkB := by
  rw [splB_eq, mkB_data]
  unfold textC
  rw [split_text _ (ok_no ok)]
theorem nums_ok {c : List (List Int)} (ok : ChOk c) {i : Nat} (hi : i < c.length) : ∀ j, j < 4 → isN .f32 (Int.toNat ((c.getD i []).getD j 0)) = false := by
  obtain ⟨f1, f2, f3, _, _, _, _, f4, _, _, _⟩ := ok.flue i hi
  intro j hj
  have : j = 0 ∨ j = 1 ∨ j = 2 ∨ j = 3 := by omega
  rcases this with rfl | rfl | rfl | rfl
  · refine nn_isN.2 ?_
    show fc c i 0 % 2147483648 ≤ 2139095040
    omega
  · refine nn_isN.2 ?_
    show fc c i 1 % 2147483648 ≤ 2139095040
    omega
  · exact nn_isN.2 f4
  · refine nn_isN.2 ?_
    show fc c i 3 % 2147483648 ≤ 2139095040
    omega
theorem lines_of {c : List (List Int)} (ok : ChOk c) : Sh (mkB (textC c)) c.length ∧ ∀ j, j < c.length → lineI ((splB 10 (mkB (textC c))).getD j .empty) = some (c.getD j []) ∧ lineS ((splB 10 (mkB (textC c))).getD j .empty) = some (c.getD j []) := by
  have hs := split_of ok
  refine ⟨⟨by rw [hs]; simp, ok.n1, ok.n2, ?_⟩, fun j hj => ?_⟩
  · rw [hs, List.getD_eq_getElem?_getD, List.getElem?_map, List.getElem?_append_right (by simp)]
    simp
    rw [toList_eq]; rfl
  · have e : (splB 10 (mkB (textC c))).getD j .empty = mkB (lnR (c.getD j [])) := by
      rw [hs, List.getD_eq_getElem?_getD, List.getElem?_map, List.getElem?_append_left (by simpa using hj), List.getElem?_map, List.getElem?_range' hj]
      simp [ln]
    rw [e]
    exact line_of (ok.rows.get hj) (into_ok ok hj) (nums_ok ok hj)
theorem text_of {x : ByteArray} {c : List (List Int)} (ok : ChOk c) (h : Sh x c.length) (hl : ∀ j, j < c.length → lineS ((splB 10 x).getD j .empty) = some (c.getD j [])) : x = mkB (textC c) := by
  have len := h.len
  have last := empty_of h.last
  have hs : splitL 10 x.data.toList = (List.range' 0 c.length).map (ln c) ++ [[]] := by
    rw [splB_eq, List.length_map] at len
    apply List.ext_getElem (by simpa using len)
    intro j hj1 hj2
    have e : ((splB 10 x).getD j .empty).data.toList = (splitL 10 x.data.toList)[j] := by
      rw [splB_eq, List.getD_eq_getElem?_getD, List.getElem?_map, List.getElem?_eq_getElem hj1]; rfl
    rw [← e]
    by_cases hj : j < c.length
    · have := (rowS_text (hl j hj)).2 (into_ok ok hj)
      rw [this, List.getElem_append_left (by simpa using hj)]
      simp [ln]
    · have hjn : j = c.length := by
        simp at hj2; omega
      subst hjn
      rw [last, List.getElem_append_right (by simp)]
      simp
  have hj := join_splitL 10 x.data.toList
  rw [hs, join_text] at hj
  rw [← mkB_of x, ← hj]; rfl
theorem plain3 (x : ByteArray) : r3 x = (0, true) := by
  unfold r3
  by_cases hx0 : x.size > 1048576
  · rw [decide_eq_true (show ((x.size : Nat) : Int) > 1048576 by omega)]; rfl
  have hx : x.size ≤ 1048576 := by omega
  rw [decide_eq_false (show ¬ ((x.size : Nat) : Int) > 1048576 by omega)]
  by_cases H : ∃ c, V c ∧ x = mkB (textC c)
  · obtain ⟨c, hv, rfl⟩ := H
    obtain ⟨ok, _⟩ := hv.ok
    obtain ⟨sh, hl⟩ := lines_of ok
    have e7 : r7 (mkB (textC c)) = (1, c) := by
      rcases impl_yes hx sh with ⟨d, d1, d2, d3, _, d5⟩ | ⟨_, hno⟩
      · have := uniq d2 d3 rfl (fun j hj => (hl j hj).1)
        subst this
        exact d5
      · exact absurd ⟨c, hv, rfl, fun j hj => (hl j hj).1, rfl⟩ hno
    have e6 : r6 (mkB (textC c)) = (0, 0, c) := by
      rcases spec_yes hx sh with ⟨d, d1, d2, d3, d5⟩ | ⟨_, hno⟩
      · have := uniq d2 d3 rfl (fun j hj => (hl j hj).2)
        subst this
        exact d5
      · exact absurd ⟨c, hv, rfl, fun j hj => (hl j hj).2⟩ hno
    obtain ⟨l', m1, m2⟩ := markF (l := c) hv.len
    rw [e6, e7, selfC hv.len, m1]
    simp only
    rw [m2]
    simp only
    rw [decide_eq_false (show ¬ (1 + 5 * (c.length : Int)) < 0 by omega), bne_self_eq_false, bne_self_eq_false]
    rfl
  · have e : r7 x = (0, []) ∧ r6 x = (0, 5, []) := by
      by_cases hs : ∃ n, Sh x n
      · obtain ⟨n, sh⟩ := hs
        refine ⟨?_, ?_⟩
        · rcases impl_yes hx sh with ⟨d, d1, d2, d3, d4, d5⟩ | ⟨g, _⟩
          · exact absurd ⟨d, d1, d4⟩ H
          · exact g
        · rcases spec_yes hx sh with ⟨d, d1, d2, d3, d5⟩ | ⟨g, _⟩
          · subst d2
            exact absurd ⟨d, d1, text_of d1.ok.1 sh d3⟩ H
          · exact g
      · exact ⟨impl_no hx hs, spec_no hx hs⟩
    rw [e.1, e.2]
    rfl
end Go.Proofs.YtffpnkkhcgjmfaaGreatDoor
