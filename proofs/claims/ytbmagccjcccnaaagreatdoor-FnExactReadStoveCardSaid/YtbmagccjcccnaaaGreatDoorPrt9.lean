/- Stoves: the program reads. -/
import Derived.Test.YtbmagccjcccnaaaGreatDoorPrt7
namespace Go.Proofs.YtbmagccjcccnaaaGreatDoor
open Go.Ab
open Go.Lib (decDigits)

/-! ### lines, one after the other -/
def comb (o : List (List Int)) (p : Nat × List (List Int) × List (List Int)) : Nat × List (List Int) × List (List Int) :=
  cond (Nat.beq p.1 0) (1, o, []) (cond (Nat.beq p.1 1) (1, p.2.1, []) (cond (Nat.beq p.1 2) (2, [], p.2.2) (cond (Nat.beq p.1 3) (2, [], o) (4, [], []))))
theorem read_loop {G : Nat → Int → List (List Int) → Nat × List (List Int) × List (List Int)} {n : Nat} {P : Nat → Option (List Int)}
    (he : ∀ m o, G (m + 1) (n : Int) o = (3, [], []))
    (h1 : ∀ m i o, i < n → o.length ≤ 100 → G (m + 1) (i : Int) o = match P i with
      | none => (0, [], [])
      | some r => comb (o ++ [r]) (G m ((i + 1 : Nat) : Int) (o ++ [r]))) :
    ∀ (k i : Nat) (o : List (List Int)) (fuel : Nat), i + k = n → k < fuel → o.length + k ≤ 100 →
      (∃ R : List (List Int), R.length = k ∧ (∀ j, j < k → P (i + j) = some (R.getD j [])) ∧ G fuel (i : Int) o = (if k = 0 then (3, [], []) else (2, [], o ++ R))) ∨
      ((∃ j, j < k ∧ P (i + j) = none) ∧ ∃ q, G fuel (i : Int) o = (0, q, []) ∨ G fuel (i : Int) o = (1, q, [])) := by
  intro k
  induction k with
  | zero =>
    intro i o fuel h hf ho
    obtain ⟨m, rfl⟩ : ∃ m, fuel = m + 1 := ⟨fuel - 1, by omega⟩
    obtain rfl : i = n := by omega
    exact .inl ⟨[], rfl, fun j hj => by omega, he m o⟩
  | succ k ih =>
    intro i o fuel h hf ho
    obtain ⟨m, rfl⟩ : ∃ m, fuel = m + 1 := ⟨fuel - 1, by omega⟩
    rw [h1 m i o (by omega) (by omega)]
    cases hP : P i with
    | none => exact .inr ⟨⟨0, by omega, hP⟩, [], .inl rfl⟩
    | some r =>
      rcases ih (i + 1) (o ++ [r]) m (by omega) (by omega) (by rw [List.length_append]; simp; omega) with ⟨R, g1, g2, g3⟩ | ⟨⟨j, g1, g2⟩, q, g3⟩
      · refine .inl ⟨r :: R, by simp [g1], fun j hj => ?_, ?_⟩
        · cases j with
          | zero => exact hP
          | succ j => rw [show i + (j + 1) = i + 1 + j by omega, g2 j (by omega)]; rfl
        · show comb (o ++ [r]) (G m ((i + 1 : Nat) : Int) (o ++ [r])) = _
          rw [g3, if_neg (show ¬ k + 1 = 0 by omega)]
          by_cases hk : k = 0
          · subst hk
            have : R = [] := List.length_eq_zero_iff.1 g1
            subst this
            rw [if_pos rfl]; rfl
          · rw [if_neg hk]
            show (2, ([] : List (List Int)), (o ++ [r]) ++ R) = _
            rw [List.append_assoc]; rfl
      · refine .inr ⟨⟨j + 1, by omega, by rw [show i + (j + 1) = i + 1 + j by omega]; exact g2⟩, ?_⟩
        rcases g3 with g3 | g3
        · exact ⟨o ++ [r], .inr (by show comb (o ++ [r]) (G m ((i + 1 : Nat) : Int) (o ++ [r])) = _; rw [g3]; rfl)⟩
        · exact ⟨q, .inr (by show comb (o ++ [r]) (G m ((i + 1 : Nat) : Int) (o ++ [r])) = _; rw [g3]; rfl)⟩
section
variable {x : ByteArray} {n : Nat} {y1 y2 y3 y4 y5 y8 : Nat} {y6 y7 : Int} {S : List ByteArray} (hS : ∀ i, (S.getD i .empty).size ≤ 1048576) (hn : n ≤ 50) (hlen : 1 + n ≤ S.length)
include hS hn hlen
theorem round_impl {ih : ByteArray → Nat → Nat → Int → Int → Nat → Nat → Nat → Nat → Nat → Int → Int → Nat → List ByteArray → List (List Int) → (Nat × List (List Int) × List (List Int))} {i : Nat} {o : List (List Int)} (hi : i < n) (ho : o.length ≤ 100) :
    b34l1 ih x 1 n (n : Int) (i : Int) y1 y2 y3 y4 y5 y6 y7 y8 S o = match lineW (S.getD (1 + i) .empty) with
      | none => (0, [], [])
      | some r => comb (o ++ [r]) (ih x 1 n (n : Int) ((i + 1 : Nat) : Int) y1 y2 y3 y4 y5 y6 y7 y8 S (o ++ [r])) := by
  have z := (line_cases (hS (1 + i))).1
  unfold b34l1 w34l1 lineW rwI
  rw [Int.toNat_natCast, dlt_t hi, dle0, blt_t hi, blt_t (show 1 + i < S.length by omega), wrap_succ (by omega), Nat.ble_eq_true_of_le (show (o.length + 1) * 73 ≤ 140737488355328 by omega), take_all']
  generalize r7 (S.getD (1 + i) .empty) = p at z ⊢
  obtain ⟨p1, p2⟩ := p
  obtain rfl : p1 = 0 := z
  simp only
  cases (p2.2.2.2.2.2.2.2.2.2.2.2.2.2.2.2.2.2.2 : Int) != 0 <;> rfl
theorem first_impl : r34l1b x 1 n (n : Int) y1 y2 y3 y4 y5 y6 y7 y8 S = if n = 0 then (3, [], []) else match lineW (S.getD (1 + 0) .empty) with
      | none => (0, [], [])
      | some r => comb [r] (r34l1 (1000 + [r].length + S.length + x.size) x 1 n (n : Int) 1 y1 y2 y3 y4 y5 y6 y7 y8 S [r]) := by
  have z := (line_cases (hS (1 + 0))).1
  by_cases h0 : n = 0
  · subst h0; rfl
  rw [if_neg h0]
  unfold r34l1b w34l1b lineW rwI
  rw [decide_eq_true (show (0 : Int) < (n : Int) by omega), blt_t (show 0 < n by omega), blt_t (show 1 + 0 < S.length by omega)]
  generalize r7 (S.getD (1 + 0) .empty) = p at z ⊢
  obtain ⟨p1, p2⟩ := p
  obtain rfl : p1 = 0 := z
  simp only
  cases (p2.2.2.2.2.2.2.2.2.2.2.2.2.2.2.2.2.2.2 : Int) != 0 <;> rfl
theorem logs_impl : (∃ R : List (List Int), R.length = n ∧ (∀ j, j < n → lineW (S.getD (1 + j) .empty) = some (R.getD j [])) ∧ r34l1b x 1 n (n : Int) y1 y2 y3 y4 y5 y6 y7 y8 S = (if n = 0 then (3, [], []) else (2, [], R))) ∨
    ((∃ j, j < n ∧ lineW (S.getD (1 + j) .empty) = none) ∧ ∃ q, r34l1b x 1 n (n : Int) y1 y2 y3 y4 y5 y6 y7 y8 S = (0, q, []) ∨ r34l1b x 1 n (n : Int) y1 y2 y3 y4 y5 y6 y7 y8 S = (1, q, [])) := by
  rw [first_impl hS hn hlen]
  by_cases h0 : n = 0
  · subst h0; exact .inl ⟨[], rfl, fun j hj => by omega, rfl⟩
  rw [if_neg h0]
  cases hP : lineW (S.getD (1 + 0) .empty) with
  | none => exact .inr ⟨⟨0, by omega, hP⟩, [], .inl rfl⟩
  | some r =>
    have := read_loop (G := fun m i o => r34l1 m x 1 n (n : Int) i y1 y2 y3 y4 y5 y6 y7 y8 S o) (n := n) (P := fun i => lineW (S.getD (1 + i) .empty))
      (fun m o => by show b34l1 (r34l1 m) _ _ _ _ _ _ _ _ _ _ _ _ _ _ _ = _; unfold b34l1 w34l1; rw [dlt_f (Nat.lt_irrefl _)]; rfl)
      (fun m i o hi ho => round_impl hS hn hlen hi ho) (n - 1) 1 [r] (1000 + [r].length + S.length + x.size) (by omega) (by omega) (by simp; omega)
    rcases this with ⟨R, g1, g2, g3⟩ | ⟨⟨j, g1, g2⟩, q, g3⟩
    · refine .inl ⟨r :: R, by simp [g1]; omega, fun j hj => ?_, ?_⟩
      · cases j with
        | zero => exact hP
        | succ j => have := g2 j (by omega); rw [show 1 + (1 + j) = 1 + (j + 1) by omega] at this; exact this
      · have g3' : r34l1 (1000 + [r].length + S.length + x.size) x 1 n (n : Int) 1 y1 y2 y3 y4 y5 y6 y7 y8 S [r] = _ := g3
        show comb [r] _ = _
        rw [g3', if_neg h0]
        by_cases hk : n - 1 = 0
        · have : R = [] := List.length_eq_zero_iff.1 (by omega)
          subst this
          rw [if_pos hk]; rfl
        · rw [if_neg hk]; rfl
    · refine .inr ⟨⟨1 + j, by omega, g2⟩, ?_⟩
      rcases g3 with g3 | g3
      · have g3' : r34l1 (1000 + [r].length + S.length + x.size) x 1 n (n : Int) 1 y1 y2 y3 y4 y5 y6 y7 y8 S [r] = _ := g3
        exact ⟨[r], .inr (by show comb [r] _ = _; rw [g3']; rfl)⟩
      · have g3' : r34l1 (1000 + [r].length + S.length + x.size) x 1 n (n : Int) 1 y1 y2 y3 y4 y5 y6 y7 y8 S [r] = _ := g3
        exact ⟨q, .inr (by show comb [r] _ = _; rw [g3']; rfl)⟩
end
/-! ### the answers -/
abbrev TS := Nat × Nat × Nat × Int × Int × Nat × Int × Nat × Nat × Int × Int × Nat × List (List Int)
def encN : TS := (0, 0, 0, 0, 0, 0, 5, 0, 0, 0, 0, 0, [])
def encS (b d : Nat) (st a : Int) (u : Nat) : List (List Int) → TS
  | [] => (0, b, d, st, a, u, 0, 0, 0, 0, 0, 0, [])
  | r :: L => (1, 0, 0, 0, 0, 0, 0, b, d, st, a, u, r :: L)
theorem encS_ne {b d u : Nat} {st a : Int} {L : List (List Int)} (h : L.length ≠ 0) : encS b d st a u L = (1, 0, 0, 0, 0, 0, 0, b, d, st, a, u, L) := by
  cases L with
  | nil => simp at h
  | cons r L => rfl
/-- a text of so many lines -/
structure Sh (x : ByteArray) (n : Nat) : Prop where
  len : (splB 10 x).length = n + 1
  n1 : 1 ≤ n
  last : ((splB 10 x).getD n .empty).toList = (ByteArray.mk #[]).toList
abbrev hdW (x : ByteArray) : List ByteArray := splB 32 ((splB 10 x).getD 0 .empty)
noncomputable def goodH (W : List ByteArray) : Bool := decide (W.length = 6) && (!bs W 3 && pOk (W.getD 5 .empty))
theorem splB_ne {c : UInt8} {x : ByteArray} : 1 ≤ (splB c x).length := by
  rw [splB_eq, List.length_map]
  exact List.length_pos_iff.2 (splitL_ne c x.data.toList)
theorem one_line {x : ByteArray} (h : (splB 10 x).length = 1) : (splB 10 x).getD 0 .empty = x := by
  rw [splB_eq, List.length_map] at h
  obtain ⟨a, ha⟩ := List.length_eq_one_iff.1 h
  have hj := join_splitL 10 x.data.toList
  rw [ha] at hj
  rw [splB_eq, ha]
  show mkB a = x
  rw [← mkB_of x, ← hj]; rfl
theorem empty_of {x : ByteArray} (h : x.toList = (ByteArray.mk #[]).toList) : x.data.toList = [] := by
  rw [toList_eq, toList_eq] at h; exact h
section
variable {x : ByteArray} (hx : x.size ≤ 1048576)
include hx
theorem lines_impl (h0 : (x.toList == (ByteArray.mk #[]).toList) = false) : r68 x = (1, (splB 10 x).length - 1, (((splB 10 x).getD ((splB 10 x).length - 1) .empty).toList == (ByteArray.mk #[]).toList), splB 10 x) := by
  have h1 := splB_ne (c := 10) (x := x)
  have h2 := splB_len (c := 10) (s := x)
  unfold r68 w68
  have hw : IntKind.i64.wrap ((((splB 10 x).length : Nat) : Int) - 1) = (((splB 10 x).length - 1 : Nat) : Int) := by rw [wrap_i64 (by omega) (by omega)]; omega
  rw [h0, hw, Int.toNat_natCast, dle0, Nat.ble_eq_true_of_le (Nat.zero_le _), Nat.ble_eq_true_of_le (show (splB 10 x).length - 1 ≤ (splB 10 x).length by omega), blt_t (show (splB 10 x).length - 1 < (splB 10 x).length by omega), blt_t (show x.size < 4294967281 by omega), Nat.zero_add, blt_t (show (splB 10 x).length - 1 < (splB 10 x).length by omega)]
  rfl
theorem impl_no (h : ¬ ∃ n, Sh x n ∧ n ≤ 7) : r34 x = encN := by
  unfold r34 w34
  extract_lets c1 c2 c3 c4 c5 c6 c7 c8 c9 ca cb cc cd
  clear_value c1 c2 c3 c4 c5 c6 c7 c8 c9 ca cb cc cd
  cases h0 : x.toList == (ByteArray.mk #[]).toList with
  | true =>
    have : r68 x = (0, 0, false, []) := by unfold r68 w68; rw [h0]; rfl
    rw [this]; rfl
  | false =>
    rw [lines_impl hx h0]
    cases hl : ((splB 10 x).getD ((splB 10 x).length - 1) .empty).toList == (ByteArray.mk #[]).toList with
    | false => rfl
    | true =>
      simp only
      by_cases h1 : (splB 10 x).length - 1 < 1
      · rw [decide_eq_true (show (((splB 10 x).length - 1 : Nat) : Int) < 1 by omega)]; rfl
      · rw [decide_eq_false (show ¬ (((splB 10 x).length - 1 : Nat) : Int) < 1 by omega)]
        by_cases h6 : (splB 10 x).length - 1 > 7
        · rw [decide_eq_true (show (((splB 10 x).length - 1 : Nat) : Int) > 7 by omega)]; rfl
        · exact absurd ⟨(splB 10 x).length - 1, ⟨by omega, by omega, eq_of_beq hl⟩, by omega⟩ h
end
end Go.Proofs.YtbmagccjcccnaaaGreatDoor
