/- Stoves: what the reference answers. -/
import Derived.Test.YtbmagccjcccnaaaGreatDoorPrta
namespace Go.Proofs.YtbmagccjcccnaaaGreatDoor
open Go.Ab
open Go.Lib (decDigits)

noncomputable def goodS (W : List ByteArray) : Bool := decide (W.length = 6) && (!bs W 3 && (r97 (W.getD 5 .empty)).2.2)
/-! ### lines, one after the other -/
def combS (f : Bool) (o : List (List Int)) (p : Nat × Bool × List (List Int)) : Nat × Bool × List (List Int) :=
  cond (Nat.beq p.1 0) (0, p.2.1, p.2.2) (cond (Nat.beq p.1 1) (0, f, o) (2, false, []))
section
variable {y1 y2 y3 y4 y5 y8 : Nat} {y6 y7 : Int} {S : List ByteArray}
theorem flag_off {m : Nat} {i : Int} {o : List (List Int)} : r67l1 (m + 1) false i y1 y2 y3 S y4 y5 y6 y7 y8 o = (1, false, []) := by
  show b67l1 (r67l1 m) _ _ _ _ _ _ _ _ _ _ _ _ = _
  unfold b67l1
  cases decide (((IntKind.i64.wrap (i + 1)) : Int) < ((S.length : Nat) : Int)) <;> rfl
theorem round_end {n m : Nat} {f : Bool} {o : List (List Int)} (hlen : S.length = n + 1) (hn : n ≤ 2000000) : r67l1 (m + 1) f (n : Int) y1 y2 y3 S y4 y5 y6 y7 y8 o = (1, false, []) := by
  show b67l1 (r67l1 m) _ _ _ _ _ _ _ _ _ _ _ _ = _
  unfold b67l1
  rw [wrap_succ (by omega), decide_eq_false (show ¬ ((n + 1 : Nat) : Int) < ((S.length : Nat) : Int) by omega)]; rfl
theorem round_spec {n i m : Nat} {o : List (List Int)} (hS : ∀ i, (S.getD i .empty).size ≤ 1048576) (hlen : S.length = n + 1) (hn : n ≤ 2000000) (hi : i < n) (ho : o.length ≤ 4000000) :
    r67l1 (m + 1) true (i : Int) y1 y2 y3 S y4 y5 y6 y7 y8 o = combS ((r99 (S.getD i .empty)).2.2.2.2.2.2.2.2.2.2.2.2.2.2.2.2.2.2.2) (o ++ [rwB (r99 (S.getD i .empty))]) (r67l1 m ((r99 (S.getD i .empty)).2.2.2.2.2.2.2.2.2.2.2.2.2.2.2.2.2.2.2) ((i + 1 : Nat) : Int) y1 y2 y3 S y4 y5 y6 y7 y8 (o ++ [rwB (r99 (S.getD i .empty))])) := by
  have z := (line_cases (hS i)).2.1
  show b67l1 (r67l1 m) _ _ _ _ _ _ _ _ _ _ _ _ = _
  unfold b67l1 rwB
  rw [wrap_succ (by omega), decide_eq_true (show ((i + 1 : Nat) : Int) < ((S.length : Nat) : Int) by omega), dle0, Int.toNat_natCast, blt_t (show i < S.length by omega), Nat.ble_eq_true_of_le (show (o.length + 1) * 73 ≤ 140737488355328 by omega), take_all', z]
  rfl
theorem loop_spec {n : Nat} (hS : ∀ i, (S.getD i .empty).size ≤ 1048576) (hlen : S.length = n + 1) (hn : n ≤ 2000000) : ∀ (k i : Nat) (o : List (List Int)) (fuel : Nat), i + k = n → k + 1 < fuel → o.length + k ≤ 4000000 →
    (k = 0 ∧ r67l1 fuel true (i : Int) y1 y2 y3 S y4 y5 y6 y7 y8 o = (1, false, [])) ∨
    (0 < k ∧ ((∃ R : List (List Int), R.length = k ∧ (∀ j, j < k → lineW (S.getD (i + j) .empty) = some (R.getD j [])) ∧ r67l1 fuel true (i : Int) y1 y2 y3 S y4 y5 y6 y7 y8 o = (0, true, o ++ R)) ∨
      ((∃ j, j < k ∧ lineW (S.getD (i + j) .empty) = none) ∧ ∃ q, r67l1 fuel true (i : Int) y1 y2 y3 S y4 y5 y6 y7 y8 o = (0, false, q)))) := by
  intro k
  induction k with
  | zero =>
    intro i o fuel h hf ho
    obtain ⟨m, rfl⟩ : ∃ m, fuel = m + 1 := ⟨fuel - 1, by omega⟩
    obtain rfl : i = n := by omega
    exact .inl ⟨rfl, round_end hlen hn⟩
  | succ k ih =>
    intro i o fuel h hf ho
    obtain ⟨m, rfl⟩ : ∃ m, fuel = m + 1 + 1 := ⟨fuel - 2, by omega⟩
    refine .inr ⟨by omega, ?_⟩
    rw [round_spec hS hlen hn (by omega) (by omega)]
    rcases (line_cases (hS i)).2.2 with ⟨r, e1, e2, e3, _, _, _⟩ | ⟨e1, e3⟩
    · rw [e3, e2]
      rcases ih (i + 1) (o ++ [r]) (m + 1) (by omega) (by omega) (by rw [List.length_append]; simp; omega) with ⟨hk, g⟩ | ⟨_, ⟨R, g1, g2, g3⟩ | ⟨⟨j, g1, g2⟩, q, g3⟩⟩
      · subst hk
        refine .inl ⟨[r], rfl, fun j hj => ?_, ?_⟩
        · obtain rfl : j = 0 := by omega
          exact e1
        · rw [g]; rfl
      · refine .inl ⟨r :: R, by simp [g1], fun j hj => ?_, ?_⟩
        · cases j with
          | zero => exact e1
          | succ j => rw [show i + (j + 1) = i + 1 + j by omega, g2 j (by omega)]; rfl
        · rw [g3]
          show (0, true, (o ++ [r]) ++ R) = _
          rw [List.append_assoc]; rfl
      · refine .inr ⟨⟨j + 1, by omega, by rw [show i + (j + 1) = i + 1 + j by omega]; exact g2⟩, q, ?_⟩
        rw [g3]; rfl
    · rw [e3, flag_off]
      exact .inr ⟨⟨0, by omega, e1⟩, _, rfl⟩
theorem first_off {f : Bool} (h : f = false ∨ S.length ≤ 2) : r67l1b f y1 y2 y3 S y4 y5 y6 y7 y8 = (1, false, []) := by
  unfold r67l1b
  rcases h with rfl | h
  · cases decide ((2 : Int) < ((S.length : Nat) : Int)) <;> rfl
  · rw [decide_eq_false (show ¬ (2 : Int) < ((S.length : Nat) : Int) by omega)]; rfl
theorem first_spec (hS : ∀ i, (S.getD i .empty).size ≤ 1048576) (hl : 2 < S.length) : r67l1b true y1 y2 y3 S y4 y5 y6 y7 y8 = combS ((r99 (S.getD 1 .empty)).2.2.2.2.2.2.2.2.2.2.2.2.2.2.2.2.2.2.2) [rwB (r99 (S.getD 1 .empty))] (r67l1 (1000 + [rwB (r99 (S.getD 1 .empty))].length + S.length) ((r99 (S.getD 1 .empty)).2.2.2.2.2.2.2.2.2.2.2.2.2.2.2.2.2.2.2) 2 y1 y2 y3 S y4 y5 y6 y7 y8 [rwB (r99 (S.getD 1 .empty))]) := by
  have z := (line_cases (hS 1)).2.1
  unfold r67l1b rwB
  rw [decide_eq_true (show (2 : Int) < ((S.length : Nat) : Int) by omega), blt_t (show 1 < S.length by omega), z]
  rfl
theorem logs_spec {n : Nat} (hS : ∀ i, (S.getD i .empty).size ≤ 1048576) (hlen : S.length = n + 1) (hn : n ≤ 2000000) (h2 : 2 ≤ n) :
    (∃ R : List (List Int), R.length = n - 1 ∧ (∀ j, j < n - 1 → lineW (S.getD (1 + j) .empty) = some (R.getD j [])) ∧ r67l1b true y1 y2 y3 S y4 y5 y6 y7 y8 = (0, true, R)) ∨
    ((∃ j, j < n - 1 ∧ lineW (S.getD (1 + j) .empty) = none) ∧ ∃ q, r67l1b true y1 y2 y3 S y4 y5 y6 y7 y8 = (0, false, q)) := by
  rw [first_spec hS (by omega)]
  rcases (line_cases (hS 1)).2.2 with ⟨r, e1, e2, e3, _, _, _⟩ | ⟨e1, e3⟩
  · rw [e3, e2]
    have g0 := loop_spec (y1 := y1) (y2 := y2) (y3 := y3) (y4 := y4) (y5 := y5) (y6 := y6) (y7 := y7) (y8 := y8) hS hlen hn (n - 2) 2 [r] (1000 + [r].length + S.length) (by omega) (by omega) (by simp; omega)
    rcases g0 with ⟨hk, g⟩ | ⟨_, ⟨R, g1, g2, g3⟩ | ⟨⟨j, g1, g2⟩, q, g3⟩⟩
    · have g' : r67l1 (1000 + [r].length + S.length) true 2 y1 y2 y3 S y4 y5 y6 y7 y8 [r] = _ := g
      refine .inl ⟨[r], by simp; omega, fun j hj => ?_, ?_⟩
      · obtain rfl : j = 0 := by omega
        exact e1
      · rw [g']; rfl
    · have g' : r67l1 (1000 + [r].length + S.length) true 2 y1 y2 y3 S y4 y5 y6 y7 y8 [r] = _ := g3
      refine .inl ⟨r :: R, by simp [g1]; omega, fun j hj => ?_, ?_⟩
      · cases j with
        | zero => exact e1
        | succ j => have := g2 j (by omega); rw [show 2 + j = 1 + (j + 1) by omega] at this; exact this
      · rw [g']; rfl
    · have g' : r67l1 (1000 + [r].length + S.length) true 2 y1 y2 y3 S y4 y5 y6 y7 y8 [r] = _ := g3
      refine .inr ⟨⟨j + 1, by omega, by rw [show 1 + (j + 1) = 2 + j by omega]; exact g2⟩, q, ?_⟩
      rw [g']; rfl
  · rw [e3, show 1000 + [rwB (r99 (S.getD 1 .empty))].length + S.length = (999 + [rwB (r99 (S.getD 1 .empty))].length + S.length) + 1 by omega, flag_off]
    exact .inr ⟨⟨0, by omega, e1⟩, _, rfl⟩
end
end Go.Proofs.YtbmagccjcccnaaaGreatDoor
namespace Go.Proofs.YtbmagccjcccnaaaGreatDoor
open Go.Ab
open Go.Lib (decDigits)

theorem read_any (s : ByteArray) : (r96 s).1 = 0 ∧ (r96 s).2.2 = (rdB s).isSome ∧ ((rdB s).isSome = true → (r96 s).2.1 = (rdB s).getD 0) := by
  cases h : rdB s with
  | none =>
    obtain ⟨v, e⟩ := read_none h
    rw [e]
    exact ⟨rfl, rfl, fun h => by cases h⟩
  | some v =>
    rw [read_some h]
    exact ⟨rfl, rfl, fun _ => rfl⟩
section
variable {x : ByteArray} (hx : x.size ≤ 1048576)
include hx
theorem spec_no (h : ¬ ∃ n, Sh x n) : r33 x = encN := by
  have e67 : (r67 x).1 = 0 ∧ (r67 x).2.2.2.2.2.2.1 = false := by
    unfold r67
    extract_lets c1 c2 c3 c4 c5 c6 c7 c8 c9 ca cb cc cd ce cf cg ch
    have h2 := splB_len (c := 10) (s := x)
    rcases cut_eq x 10 hx with ⟨h1, e⟩ | ⟨h1, e⟩
    · have e : r95 x 10 = (0, splB 10 x, ByteArray.empty) := e
      have hl : (((splB 10 x).getD ((splB 10 x).length - 1) .empty).toList == (ByteArray.mk #[]).toList) = false := by
        cases hl : ((splB 10 x).getD ((splB 10 x).length - 1) .empty).toList == (ByteArray.mk #[]).toList with
        | false => rfl
        | true => exact absurd ⟨(splB 10 x).length - 1, by omega, by omega, eq_of_beq hl⟩ h
      have hw : IntKind.i64.wrap ((((splB 10 x).length : Nat) : Int) - 1) = (((splB 10 x).length - 1 : Nat) : Int) := by rw [wrap_i64 (by omega) (by omega)]; omega
      have ec : c1 = r95 ((splB 10 x).getD 0 .empty) 32 := by simp only [c1, e]
      clear_value c1 c2 c3 c4 c5 c6 c7 c8 c9 ca cb cc cd ce cf cg ch
      rw [e]
      simp only
      rw [hw, Int.toNat_natCast, hl, dle0, blt_t (show 0 < (splB 10 x).length by omega), blt_t (show (splB 10 x).length - 1 < (splB 10 x).length by omega)]
      have e1 : (c1.1 = 0 ∧ 2 ≤ c1.2.1.length) ∨ c1.1 = 1 := by
        rw [ec]
        rcases cut_eq ((splB 10 x).getD 0 .empty) 32 (splB_sizes hx 0) with ⟨q1, q2⟩ | ⟨q1, q2⟩
        · have q2 : r95 ((splB 10 x).getD 0 .empty) 32 = _ := q2
          rw [q2]; exact .inl ⟨rfl, q1⟩
        · have q2 : r95 ((splB 10 x).getD 0 .empty) 32 = _ := q2
          rw [q2]; exact .inr rfl
      rcases e1 with ⟨e1, e2⟩ | e1
      · rw [e1, blt_t (show 0 < c1.2.1.length by omega)]
        cases ((((c1.2.1).length : Nat) : Int) : Int) != 6 with
        | true => exact ⟨rfl, rfl⟩
        | false => cases (((c1.2.1).getD 0 .empty).toList == (ByteArray.mk #[115, 116, 111, 118, 101]).toList) <;> exact ⟨rfl, rfl⟩
      · rw [e1]; exact ⟨rfl, rfl⟩
    · have e : r95 x 10 = (1, [], x) := e
      clear_value c1 c2 c3 c4 c5 c6 c7 c8 c9 ca cb cc cd ce cf cg ch
      rw [e]
      simp only
      rcases cut_eq x 32 hx with ⟨q1, q2⟩ | ⟨q1, q2⟩
      · have q2 : r95 x 32 = (0, splB 32 x, ByteArray.empty) := q2
        rw [q2]
        simp only
        rw [blt_t (show 0 < (splB 32 x).length by omega)]
        have hne : (x.toList == (ByteArray.mk #[]).toList) = false := by
          cases h0 : x.toList == (ByteArray.mk #[]).toList with
          | false => rfl
          | true =>
            exfalso
            have e := empty_of (eq_of_beq h0)
            rw [splB_eq, e] at q1
            have : (2 : Nat) ≤ 1 := q1
            omega
        rw [hne]
        cases ((((splB 32 x).length : Nat) : Int) : Int) != 6 with
        | true => exact ⟨rfl, rfl⟩
        | false => cases (((splB 32 x).getD 0 .empty).toList == (ByteArray.mk #[115, 116, 111, 118, 101]).toList) <;> exact ⟨rfl, rfl⟩
      · have q2 : r95 x 32 = (1, [], x) := q2
        rw [q2]; exact ⟨rfl, rfl⟩
  unfold r33 w33
  rw [e67.1, e67.2]; rfl
theorem spec_flow {n : Nat} (h : Sh x n) :
    (goodS (hdW x) = false ∧ r33 x = encN) ∨ (goodS (hdW x) = true ∧
      ((∃ R : List (List Int), R.length = n - 1 ∧ (∀ j, j < n - 1 → lineW ((splB 10 x).getD (1 + j) .empty) = some (R.getD j [])) ∧
        r33 x = cond (okL R && sc (num (hdW x) 1) (num (hdW x) 2) (pk ((hdW x).getD 4 .empty) (-1)) ((r97 ((hdW x).getD 5 .empty)).2.1) (num (hdW x) 3))
          (encS (num (hdW x) 1) (num (hdW x) 2) (pk ((hdW x).getD 4 .empty) (-1)) ((r97 ((hdW x).getD 5 .empty)).2.1) (num (hdW x) 3) R) encN) ∨
      ((∃ j, j < n - 1 ∧ lineW ((splB 10 x).getD (1 + j) .empty) = none) ∧ r33 x = encN))) := by
  have n1 := h.n1
  have len := h.len
  have h2 := splB_len (c := 10) (s := x)
  have hsz := splB_sizes (c := 10) hx
  have hl : (((splB 10 x).getD n .empty).toList == (ByteArray.mk #[]).toList) = true := by rw [h.last]; exact beq_self_eq_true _
  have e : r95 x 10 = (0, splB 10 x, ByteArray.empty) := by
    rcases cut_eq x 10 hx with ⟨_, e⟩ | ⟨h1, _⟩
    · exact e
    · rw [h1] at len
      have : 1 = n + 1 := len
      omega
  have hw : IntKind.i64.wrap (((n + 1 : Nat) : Int) - 1) = ((n : Nat) : Int) := by rw [wrap_i64 (by omega) (by omega)]; omega
  have key : ∀ (T : Nat × Nat × Nat × Int × Int × Nat × Bool × Nat × Nat × Int × Int × Nat × Bool × List (List Int)), r67 x = T → T.1 = 0 → T.2.2.2.2.2.2.1 = false → r33 x = encN := fun T e1 e2 e3 => by
    unfold r33 w33
    rw [e1, e2, e3]; rfl
  have w0 : ((hdW x).length = 1 ∧ r95 ((splB 10 x).getD 0 .empty) 32 = (1, [], (splB 10 x).getD 0 .empty)) ∨ (2 ≤ (hdW x).length ∧ r95 ((splB 10 x).getD 0 .empty) 32 = (0, hdW x, ByteArray.empty)) := by
    rcases cut_eq ((splB 10 x).getD 0 .empty) 32 (hsz 0) with ⟨q1, q2⟩ | ⟨q1, q2⟩
    · exact .inr ⟨q1, q2⟩
    · exact .inl ⟨by show (splB 32 _).length = 1; rw [q1]; rfl, q2⟩
  have f1 := read_any ((hdW x).getD 1 .empty)
  have f2 := read_any ((hdW x).getD 2 .empty)
  have f3 := read_any ((hdW x).getD 3 .empty)
  obtain ⟨v, b5, g5, g6, _⟩ := number_spec ((hdW x).getD 5 .empty)
  obtain ⟨T, hT⟩ : ∃ T, r67 x = T := ⟨_, rfl⟩
  have hT0 := hT
  unfold r67 at hT
  extract_lets c1 c2 c3 c4 c5 c6 c7 c8 c9 ca cb cc cd ce cf cg ch at hT
  have ec : c1 = r95 ((splB 10 x).getD 0 .empty) 32 := by simp only [c1, e]
  rcases w0 with ⟨w1, w2⟩ | ⟨w1, w2⟩
  · left
    refine ⟨by unfold goodS; rw [w1]; rfl, ?_⟩
    rw [w2] at ec
    clear_value c1 c2 c3 c4 c5 c6 c7 c8 c9 ca cb cc cd ce cf cg ch
    rw [e] at hT
    simp only at hT
    rw [blt_t (show 0 < (splB 10 x).length by omega), ec] at hT
    exact key T hT0 (by rw [← hT]; rfl) (by rw [← hT]; rfl)
  · rw [w2] at ec
    by_cases h6' : ¬ (hdW x).length = 6
    · left
      refine ⟨by unfold goodS; rw [decide_eq_false h6']; rfl, ?_⟩
      clear_value c1 c2 c3 c4 c5 c6 c7 c8 c9 ca cb cc cd ce cf cg ch
      rw [e] at hT
      simp only at hT
      rw [blt_t (show 0 < (splB 10 x).length by omega), ec] at hT
      simp only at hT
      rw [show ((((hdW x).length : Nat) : Int) != 6) = true from bne_iff_ne.2 (by omega)] at hT
      exact key T hT0 (by rw [← hT]; rfl) (by rw [← hT]; rfl)
    have h6 : (hdW x).length = 6 := by omega
    cases hst : (((hdW x).getD 0 .empty).toList == STV.toList) with
    | false =>
      left
      have hb0 : bs (hdW x) 3 = true := by
        show ((((!(((hdW x).getD 0 .empty).toList == STV.toList)) || nb (hdW x) 1) || nb (hdW x) 2) || nb (hdW x) 3) = true
        rw [hst]; rfl
      refine ⟨by unfold goodS; rw [hb0]; simp, ?_⟩
      clear_value c1 c2 c3 c4 c5 c6 c7 c8 c9 ca cb cc cd ce cf cg ch
      rw [e] at hT
      simp only at hT
      rw [blt_t (show 0 < (splB 10 x).length by omega), ec] at hT
      simp only at hT
      rw [show ((((hdW x).length : Nat) : Int) != 6) = false from by rw [h6]; rfl, blt_t (show 0 < (hdW x).length by omega), show (((hdW x).getD 0 .empty).toList == (ByteArray.mk #[115, 116, 111, 118, 101]).toList) = false from hst] at hT
      exact key T hT0 (by rw [← hT]; rfl) (by rw [← hT]; rfl)
    | true =>
    have hnb : ∀ j, j < 6 → nb (hdW x) j = !(rdB ((hdW x).getD j .empty)).isSome ∧ num (hdW x) j = (rdB ((hdW x).getD j .empty)).getD 0 := fun j hj => by
      unfold nb num
      rw [decide_eq_true (show j < (hdW x).length by omega), if_pos (show j < (hdW x).length by omega), Bool.true_and]
      exact ⟨rfl, rfl⟩
    have hbs : bs (hdW x) 3 = ((!(rdB ((hdW x).getD 1 .empty)).isSome || !(rdB ((hdW x).getD 2 .empty)).isSome) || !(rdB ((hdW x).getD 3 .empty)).isSome) := by
      show ((((!(((hdW x).getD 0 .empty).toList == STV.toList)) || nb (hdW x) 1) || nb (hdW x) 2) || nb (hdW x) 3) = _
      rw [hst, (hnb 1 (by omega)).1, (hnb 2 (by omega)).1, (hnb 3 (by omega)).1]; rfl
    -- the state
    have es : c2 = (0, pk ((hdW x).getD 4 .empty) (-1)) := by
      simp only [c2, e, ec]
      refine four_loop (w := (hdW x).getD 4 .empty) (G := fun m i s => r67l0 m _ _ _ _ i 0 0 0 _ (hdW x) _ _ s _ _ _ _ _ _) ?_ ?_ (by omega) (-1)
      · intro m i s hi
        show b67l0 (r67l0 m) _ _ _ _ _ _ _ _ _ _ _ _ _ _ _ _ _ _ _ = _
        unfold b67l0
        rw [decide_eq_true (show ((i : Nat) : Int) < 4 by omega), dle0, Int.toNat_natCast, blt_t hi, blt_t (show 4 < (hdW x).length by omega), wrap_succ (by omega), wrap8 hi]
        unfold hit
        cases (STATES.getD i .empty).toList == ((hdW x).getD 4 .empty).toList <;> rfl
      · intro m s
        show b67l0 (r67l0 m) _ _ _ _ _ _ _ _ _ _ _ _ _ _ _ _ _ _ _ = _
        unfold b67l0
        rfl
    have e3 : c3 = r67l1b b5 0 0 0 (splB 10 x) ((r96 ((hdW x).getD 1 .empty)).2.1) ((r96 ((hdW x).getD 2 .empty)).2.1) (pk ((hdW x).getD 4 .empty) (-1)) ((v : Nat) : Int) ((r96 ((hdW x).getD 3 .empty)).2.1) := by simp only [c3, e, ec, es, g5]
    have e4 : c4 = r100 ((r96 ((hdW x).getD 1 .empty)).2.1) ((r96 ((hdW x).getD 2 .empty)).2.1) (pk ((hdW x).getD 4 .empty) (-1)) ((v : Nat) : Int) ((r96 ((hdW x).getD 3 .empty)).2.1) (c3.2.2) := by simp only [c4, ec, es, g5]
    have e5 : c5 = r100b ((r96 ((hdW x).getD 1 .empty)).2.1) ((r96 ((hdW x).getD 2 .empty)).2.1) (pk ((hdW x).getD 4 .empty) (-1)) ((v : Nat) : Int) ((r96 ((hdW x).getD 3 .empty)).2.1) := by simp only [c5, ec, es, g5]
    have e6 : c6 = (1, false, []) := by simp only [c6]; exact first_off (.inl rfl)
    clear_value c1 c2 c3 c4 c5 c6 c7 c8 c9 ca cb cc cd ce cf cg ch
    rw [e] at hT
    simp only at hT
    rw [blt_t (show 0 < (splB 10 x).length by omega), ec] at hT
    simp only at hT
    rw [show ((((hdW x).length : Nat) : Int) != 6) = false from by rw [h6]; rfl, blt_t (show 0 < (hdW x).length by omega), show (((hdW x).getD 0 .empty).toList == (ByteArray.mk #[115, 116, 111, 118, 101]).toList) = true from hst, len, hw, Int.toNat_natCast, dle0, blt_t (show n < n + 1 by omega), hl, blt_t (show 1 < (hdW x).length by omega), blt_t (show 2 < (hdW x).length by omega), blt_t (show 3 < (hdW x).length by omega), blt_t (show 5 < (hdW x).length by omega), f1.1, f2.1, f3.1, f1.2.1, f2.2.1, f3.2.1, g5, es, e6] at hT
    simp only at hT
    cases h1 : (rdB ((hdW x).getD 1 .empty)).isSome with
    | false =>
      left
      rw [h1] at hT hbs
      refine ⟨by unfold goodS; rw [hbs]; simp, key T hT0 (by rw [← hT]; rfl) (by rw [← hT]; rfl)⟩
    | true =>
    cases h2' : (rdB ((hdW x).getD 2 .empty)).isSome with
    | false =>
      left
      rw [h1, h2'] at hT hbs
      refine ⟨by unfold goodS; rw [hbs]; simp, key T hT0 (by rw [← hT]; rfl) (by rw [← hT]; rfl)⟩
    | true =>
    cases h3 : (rdB ((hdW x).getD 3 .empty)).isSome with
    | false =>
      left
      rw [h1, h2', h3] at hT hbs
      refine ⟨by unfold goodS; rw [hbs]; simp, key T hT0 (by rw [← hT]; rfl) (by rw [← hT]; rfl)⟩
    | true =>
    rw [h1, h2', h3] at hT hbs
    rw [f1.2.2 h1, f2.2.2 h2', f3.2.2 h3, ← (hnb 1 (by omega)).2, ← (hnb 2 (by omega)).2, ← (hnb 3 (by omega)).2] at e3 e4 e5 hT
    have hd := num_lt (hdW x) 2
    have hu := num_lt (hdW x) 3
    have hpk := pk_range ((hdW x).getD 4 .empty) (s := -1) (by omega)
    have hgs : goodS (hdW x) = b5 := by unfold goodS; rw [hbs, g5, decide_eq_true h6]; rfl
    rw [hgs, g5]
    simp only
    cases b5 with
    | false =>
      left
      rw [first_off (.inl rfl)] at e3
      rw [e3] at hT
      exact ⟨rfl, key T hT0 (by rw [← hT]; rfl) (by rw [← hT]; rfl)⟩
    | true =>
    right
    refine ⟨rfl, ?_⟩
    by_cases hn2 : n = 1
    · left
      refine ⟨[], by show 0 = n - 1; omega, fun j hj => by omega, ?_⟩
      rw [first_off (.inr (by omega))] at e3
      rw [e3, e5, validS0 hd hu hpk] at hT
      have ok0 : okL [] = true := rfl
      rw [ok0, Bool.true_and]
      unfold r33 w33
      rw [hT0, ← hT]
      cases sc (num (hdW x) 1) (num (hdW x) 2) (pk ((hdW x).getD 4 .empty) (-1)) ((v : Nat) : Int) (num (hdW x) 3) <;> rfl
    · rcases logs_spec (y1 := 0) (y2 := 0) (y3 := 0) (y4 := num (hdW x) 1) (y5 := num (hdW x) 2) (y6 := pk ((hdW x).getD 4 .empty) (-1)) (y7 := ((v : Nat) : Int)) (y8 := num (hdW x) 3) (n := n) hsz len (by omega) (by omega) with ⟨R, q1, q2, q3⟩ | ⟨q1, q, q3⟩
      · left
        refine ⟨R, q1, q2, ?_⟩
        have hR : RowsOk Sh18 R := by
          intro r hr
          obtain ⟨j, hj, rfl⟩ := List.getElem_of_mem hr
          have e := q2 j (by omega)
          rcases (line_cases (hsz (1 + j))).2.2 with ⟨r', q1, _, _, q4, _, _⟩ | ⟨q1, _⟩
          · rw [q1] at e
            have := Option.some.inj e
            rw [List.getD_eq_getElem?_getD, List.getElem?_eq_getElem hj] at this
            have e2 : r' = R[j] := this
            rw [← e2]; exact q4
          · rw [q1] at e; cases e
        rw [q3] at e3
        rw [e3] at e4
        rw [e3, e4, validS hR (by omega) hd hu hpk] at hT
        rw [encS_ne (by omega)]
        unfold r33 w33
        rw [hT0, ← hT]
        cases okL R && sc (num (hdW x) 1) (num (hdW x) 2) (pk ((hdW x).getD 4 .empty) (-1)) ((v : Nat) : Int) (num (hdW x) 3) <;> rfl
      · right
        refine ⟨q1, ?_⟩
        rw [q3] at e3
        rw [e3] at hT
        unfold r33 w33
        rw [hT0, ← hT]
        rfl
end
end Go.Proofs.YtbmagccjcccnaaaGreatDoor
