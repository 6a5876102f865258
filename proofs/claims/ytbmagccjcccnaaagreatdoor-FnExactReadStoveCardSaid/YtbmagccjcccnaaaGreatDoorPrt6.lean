/- Stoves: marks. -/
import Derived.Test.YtbmagccjcccnaaaGreatDoorPrt4
import Derived.Test.YtbmagccjcccnaaaGreatDoorA26
namespace Go.Proofs.YtbmagccjcccnaaaGreatDoor
open Go.Ab
/- The plain law of DropSpent: marks. -/
set_option maxHeartbeats 4000000

noncomputable def mrow (c : Nat) : List Int := [((ofInt .f32 ((c : Nat) : Int) : Nat) : Int), ((ofInt .f32 ((c + 1 : Nat) : Int) : Nat) : Int), ((ofInt .f32 ((c + 2 : Nat) : Int) : Nat) : Int), ((ofInt .f32 ((c + 3 : Nat) : Int) : Nat) : Int), ((ofInt .f32 ((c + 4 : Nat) : Int) : Nat) : Int), ((ofInt .f32 ((c + 5 : Nat) : Int) : Nat) : Int), ((ofInt .f32 ((c + 6 : Nat) : Int) : Nat) : Int), ((ofInt .f32 ((c + 7 : Nat) : Int) : Nat) : Int), ((ofInt .f32 ((c + 8 : Nat) : Int) : Nat) : Int), ((ofInt .f32 ((c + 9 : Nat) : Int) : Nat) : Int), ((ofInt .f32 ((c + 10 : Nat) : Int) : Nat) : Int), ((ofInt .f32 ((c + 11 : Nat) : Int) : Nat) : Int), ((ofInt .f32 ((c + 12 : Nat) : Int) : Nat) : Int), ((ofInt .f32 ((c + 13 : Nat) : Int) : Nat) : Int), ((ofInt .f32 ((c + 14 : Nat) : Int) : Nat) : Int), ((ofInt .f32 ((c + 15 : Nat) : Int) : Nat) : Int), ((ofInt .f32 ((c + 16 : Nat) : Int) : Nat) : Int), ((ofInt .f32 ((c + 17 : Nat) : Int) : Nat) : Int)]
theorem wr (c j : Nat) (h : c + j < 9223372036854775807) : IntKind.i64.wrap (((c + j : Nat) : Int) + 1) = ((c + (j + 1) : Nat) : Int) := wrap_succ h
variable {L : List (List Int)} {i c : Nat}

theorem m_b (hi : i < L.length) (hc : c < 1000000000000) : r76l1b (c : Int) (i : Int) L = (0, ((c + 1 : Nat) : Int), L.modify i fun r => (spl 18 r 5 [((ofInt .f32 ((c : Nat) : Int) : Nat) : Int)])) := by
  unfold r76l1b
  rw [Int.toNat_natCast, dle0, blt_t hi, wrap_succ (show c < 9223372036854775807 by omega)]
  rfl
theorem m_c (hi : i < L.length) (hc : c < 999999999999) : r76l1c (c : Int) (i : Int) L = (0, ((c + 2 : Nat) : Int), L.modify i fun r => (spl 18 (spl 18 r 4 [((ofInt .f32 ((c : Nat) : Int) : Nat) : Int)]) 5 [((ofInt .f32 ((c + 1 : Nat) : Int) : Nat) : Int)])) := by
  unfold r76l1c
  rw [Int.toNat_natCast, dle0, blt_t hi, wrap_succ (show c < 9223372036854775807 by omega)]
  rw [m_b (L := L.modify i _) (c := c + 1) (by rw [List.length_modify]; exact hi) (by omega), modify_modify]
  simp only [Nat.add_assoc]; rfl
theorem m_d (hi : i < L.length) (hc : c < 999999999998) : r76l1d (c : Int) (i : Int) L = (0, ((c + 3 : Nat) : Int), L.modify i fun r => (spl 18 (spl 18 (spl 18 r 3 [((ofInt .f32 ((c : Nat) : Int) : Nat) : Int)]) 4 [((ofInt .f32 ((c + 1 : Nat) : Int) : Nat) : Int)]) 5 [((ofInt .f32 ((c + 2 : Nat) : Int) : Nat) : Int)])) := by
  unfold r76l1d
  rw [Int.toNat_natCast, dle0, blt_t hi, wrap_succ (show c < 9223372036854775807 by omega)]
  rw [m_c (L := L.modify i _) (c := c + 1) (by rw [List.length_modify]; exact hi) (by omega), modify_modify]
  simp only [Nat.add_assoc]; rfl
theorem m_e (hi : i < L.length) (hc : c < 999999999997) : r76l1e (c : Int) (i : Int) L = (0, ((c + 4 : Nat) : Int), L.modify i fun r => (spl 18 (spl 18 (spl 18 (spl 18 r 2 [((ofInt .f32 ((c : Nat) : Int) : Nat) : Int)]) 3 [((ofInt .f32 ((c + 1 : Nat) : Int) : Nat) : Int)]) 4 [((ofInt .f32 ((c + 2 : Nat) : Int) : Nat) : Int)]) 5 [((ofInt .f32 ((c + 3 : Nat) : Int) : Nat) : Int)])) := by
  unfold r76l1e
  rw [Int.toNat_natCast, dle0, blt_t hi, wrap_succ (show c < 9223372036854775807 by omega)]
  rw [m_d (L := L.modify i _) (c := c + 1) (by rw [List.length_modify]; exact hi) (by omega), modify_modify]
  simp only [Nat.add_assoc]; rfl
theorem m_f (hi : i < L.length) (hc : c < 999999999996) : r76l1f (c : Int) (i : Int) L = (0, ((c + 5 : Nat) : Int), L.modify i fun r => (spl 18 (spl 18 (spl 18 (spl 18 (spl 18 r 1 [((ofInt .f32 ((c : Nat) : Int) : Nat) : Int)]) 2 [((ofInt .f32 ((c + 1 : Nat) : Int) : Nat) : Int)]) 3 [((ofInt .f32 ((c + 2 : Nat) : Int) : Nat) : Int)]) 4 [((ofInt .f32 ((c + 3 : Nat) : Int) : Nat) : Int)]) 5 [((ofInt .f32 ((c + 4 : Nat) : Int) : Nat) : Int)])) := by
  unfold r76l1f
  rw [Int.toNat_natCast, dle0, blt_t hi, wrap_succ (show c < 9223372036854775807 by omega)]
  rw [m_e (L := L.modify i _) (c := c + 1) (by rw [List.length_modify]; exact hi) (by omega), modify_modify]
  simp only [Nat.add_assoc]; rfl
theorem m_g (hi : i < L.length) (hc : c < 999999999995) : r76l1g (c : Int) (i : Int) L = (0, ((c + 6 : Nat) : Int), L.modify i fun r => (spl 18 (spl 18 (spl 18 (spl 18 (spl 18 (spl 18 r 0 [((ofInt .f32 ((c : Nat) : Int) : Nat) : Int)]) 1 [((ofInt .f32 ((c + 1 : Nat) : Int) : Nat) : Int)]) 2 [((ofInt .f32 ((c + 2 : Nat) : Int) : Nat) : Int)]) 3 [((ofInt .f32 ((c + 3 : Nat) : Int) : Nat) : Int)]) 4 [((ofInt .f32 ((c + 4 : Nat) : Int) : Nat) : Int)]) 5 [((ofInt .f32 ((c + 5 : Nat) : Int) : Nat) : Int)])) := by
  unfold r76l1g
  rw [Int.toNat_natCast, dle0, blt_t hi, wrap_succ (show c < 9223372036854775807 by omega)]
  rw [m_f (L := L.modify i _) (c := c + 1) (by rw [List.length_modify]; exact hi) (by omega), modify_modify]
  simp only [Nat.add_assoc]; rfl

set_option maxHeartbeats 4000000
variable {L : List (List Int)} {i c : Nat}
theorem mark_step (ih : Int → Int → List (List Int) → (Nat × Int × List (List Int))) (hi : i < L.length) (hL : L.length ≤ 1048576) (hc : c < 1000000000) : b76l0b ih (c : Int) (i : Int) L = ih ((c + 18 : Nat) : Int) ((i + 1 : Nat) : Int) (L.modify i fun _ => mrow c) := by
  unfold b76l0b
  rw [m_g hi (by omega), Int.toNat_natCast, dlt_t hi, dle0, wrap_succ (show i < 9223372036854775807 by omega)]
  simp only [List.length_modify, blt_t hi, modify_modify, wr c 6 (by omega), wr c 7 (by omega), wr c 8 (by omega), wr c 9 (by omega), wr c 10 (by omega), wr c 11 (by omega), wr c 12 (by omega), wr c 13 (by omega), wr c 14 (by omega), wr c 15 (by omega), wr c 16 (by omega), wr c 17 (by omega)]
  rfl

theorem mget (c j : Nat) (hj : j < 18) : (mrow c)[j]? = some ((ofInt .f32 ((c + j : Nat) : Int) : Nat) : Int) := by
  unfold mrow
  match j, hj with
  | 0, _ => rfl
  | 1, _ => rfl
  | 2, _ => rfl
  | 3, _ => rfl
  | 4, _ => rfl
  | 5, _ => rfl
  | 6, _ => rfl
  | 7, _ => rfl
  | 8, _ => rfl
  | 9, _ => rfl
  | 10, _ => rfl
  | 11, _ => rfl
  | 12, _ => rfl
  | 13, _ => rfl
  | 14, _ => rfl
  | 15, _ => rfl
  | 16, _ => rfl
  | 17, _ => rfl
  | n + 18, h => exact absurd h (by omega)
theorem colJ {M : List (List Int)} {i c : Nat} (h : M.getD i [] = mrow c) (j : Nat) (hj : j < 18) : Int.toNat ((M.getD i []).getD j 0) = ofInt .f32 ((c + j : Nat) : Int) := by
  have e : (mrow c).getD j 0 = ((ofInt .f32 ((c + j : Nat) : Int) : Nat) : Int) := by
    rw [List.getD_eq_getElem?_getD, mget c j hj]
    exact Option.getD_some
  have e2 : (M.getD i []).getD j 0 = ((ofInt .f32 ((c + j : Nat) : Int) : Nat) : Int) := (congrArg (fun r => r.getD j 0) h).trans e
  exact (congrArg Int.toNat e2).trans (Int.toNat_natCast _)

set_option maxHeartbeats 4000000
variable {L : List (List Int)} {i c : Nat}
variable {M : List (List Int)}
theorem col_0 (h : M.getD i [] = mrow c) : Int.toNat ((M.getD i []).getD 0 0) = ofInt .f32 (((c : Nat) : Int) : Int) := colJ h 0 (by decide)
theorem col_1 (h : M.getD i [] = mrow c) : Int.toNat ((M.getD i []).getD 1 0) = ofInt .f32 (((c + 1 : Nat) : Int) : Int) := colJ h 1 (by decide)
theorem col_2 (h : M.getD i [] = mrow c) : Int.toNat ((M.getD i []).getD 2 0) = ofInt .f32 (((c + 2 : Nat) : Int) : Int) := colJ h 2 (by decide)
theorem col_3 (h : M.getD i [] = mrow c) : Int.toNat ((M.getD i []).getD 3 0) = ofInt .f32 (((c + 3 : Nat) : Int) : Int) := colJ h 3 (by decide)
theorem col_4 (h : M.getD i [] = mrow c) : Int.toNat ((M.getD i []).getD 4 0) = ofInt .f32 (((c + 4 : Nat) : Int) : Int) := colJ h 4 (by decide)
theorem col_5 (h : M.getD i [] = mrow c) : Int.toNat ((M.getD i []).getD 5 0) = ofInt .f32 (((c + 5 : Nat) : Int) : Int) := colJ h 5 (by decide)
theorem col_6 (h : M.getD i [] = mrow c) : Int.toNat ((M.getD i []).getD 6 0) = ofInt .f32 (((c + 6 : Nat) : Int) : Int) := colJ h 6 (by decide)
theorem col_7 (h : M.getD i [] = mrow c) : Int.toNat ((M.getD i []).getD 7 0) = ofInt .f32 (((c + 7 : Nat) : Int) : Int) := colJ h 7 (by decide)
theorem col_8 (h : M.getD i [] = mrow c) : Int.toNat ((M.getD i []).getD 8 0) = ofInt .f32 (((c + 8 : Nat) : Int) : Int) := colJ h 8 (by decide)
theorem col_9 (h : M.getD i [] = mrow c) : Int.toNat ((M.getD i []).getD 9 0) = ofInt .f32 (((c + 9 : Nat) : Int) : Int) := colJ h 9 (by decide)
theorem col_10 (h : M.getD i [] = mrow c) : Int.toNat ((M.getD i []).getD 10 0) = ofInt .f32 (((c + 10 : Nat) : Int) : Int) := colJ h 10 (by decide)
theorem col_11 (h : M.getD i [] = mrow c) : Int.toNat ((M.getD i []).getD 11 0) = ofInt .f32 (((c + 11 : Nat) : Int) : Int) := colJ h 11 (by decide)
theorem col_12 (h : M.getD i [] = mrow c) : Int.toNat ((M.getD i []).getD 12 0) = ofInt .f32 (((c + 12 : Nat) : Int) : Int) := colJ h 12 (by decide)
theorem col_13 (h : M.getD i [] = mrow c) : Int.toNat ((M.getD i []).getD 13 0) = ofInt .f32 (((c + 13 : Nat) : Int) : Int) := colJ h 13 (by decide)
theorem col_14 (h : M.getD i [] = mrow c) : Int.toNat ((M.getD i []).getD 14 0) = ofInt .f32 (((c + 14 : Nat) : Int) : Int) := colJ h 14 (by decide)
theorem col_15 (h : M.getD i [] = mrow c) : Int.toNat ((M.getD i []).getD 15 0) = ofInt .f32 (((c + 15 : Nat) : Int) : Int) := colJ h 15 (by decide)
theorem col_16 (h : M.getD i [] = mrow c) : Int.toNat ((M.getD i []).getD 16 0) = ofInt .f32 (((c + 16 : Nat) : Int) : Int) := colJ h 16 (by decide)
theorem col_17 (h : M.getD i [] = mrow c) : Int.toNat ((M.getD i []).getD 17 0) = ofInt .f32 (((c + 17 : Nat) : Int) : Int) := colJ h 17 (by decide)

set_option maxHeartbeats 4000000
variable {L : List (List Int)} {i c : Nat}
variable {M : List (List Int)}
theorem h_b (h : M.getD i [] = mrow c) (hi : i < M.length) (hc : c < 1000000000) : r77l3b ((c + 17 : Nat) : Int) (i : Int) M = (1, ((c + 18 : Nat) : Int)) := by
  unfold r77l3b
  rw [Int.toNat_natCast, dle0, blt_t hi, col_17 h, ofInt_same, wr c 17 (by omega)]
  rfl
theorem h_c (h : M.getD i [] = mrow c) (hi : i < M.length) (hc : c < 1000000000) : r77l3c ((c + 16 : Nat) : Int) (i : Int) M = (1, 0, ((c + 18 : Nat) : Int)) := by
  unfold r77l3c
  rw [Int.toNat_natCast, dle0, blt_t hi, col_16 h, ofInt_same, wr c 16 (by omega)]
  rw [h_b h hi hc]; rfl
theorem h_d (h : M.getD i [] = mrow c) (hi : i < M.length) (hc : c < 1000000000) : r77l3d ((c + 15 : Nat) : Int) (i : Int) M = (1, 0, ((c + 18 : Nat) : Int)) := by
  unfold r77l3d
  rw [Int.toNat_natCast, dle0, blt_t hi, col_15 h, ofInt_same, wr c 15 (by omega)]
  rw [h_c h hi hc]; rfl
theorem h_e (h : M.getD i [] = mrow c) (hi : i < M.length) (hc : c < 1000000000) : r77l3e ((c + 14 : Nat) : Int) (i : Int) M = (1, 0, ((c + 18 : Nat) : Int)) := by
  unfold r77l3e
  rw [Int.toNat_natCast, dle0, blt_t hi, col_14 h, ofInt_same, wr c 14 (by omega)]
  rw [h_d h hi hc]; rfl
theorem h_f (h : M.getD i [] = mrow c) (hi : i < M.length) (hc : c < 1000000000) : r77l3f ((c + 13 : Nat) : Int) (i : Int) M = (1, 0, ((c + 18 : Nat) : Int)) := by
  unfold r77l3f
  rw [Int.toNat_natCast, dle0, blt_t hi, col_13 h, ofInt_same, wr c 13 (by omega)]
  rw [h_e h hi hc]; rfl
theorem h_g (h : M.getD i [] = mrow c) (hi : i < M.length) (hc : c < 1000000000) : r77l3g ((c + 12 : Nat) : Int) (i : Int) M = (1, 0, ((c + 18 : Nat) : Int)) := by
  unfold r77l3g
  rw [Int.toNat_natCast, dle0, blt_t hi, col_12 h, ofInt_same, wr c 12 (by omega)]
  rw [h_f h hi hc]; rfl

set_option maxHeartbeats 4000000
variable {L : List (List Int)} {i c : Nat}
variable {M : List (List Int)}
theorem held_step (ih : Int → Int → List (List Int) → (Nat × Int × Int)) (h : M.getD i [] = mrow c) (hi : i < M.length) (hM : M.length ≤ 1048576) (hc : c < 1000000000) : b77l0b ih (c : Int) (i : Int) M = ih ((c + 18 : Nat) : Int) ((i + 1 : Nat) : Int) M := by
  unfold b77l0b
  simp only [Int.toNat_natCast, wrap_succ (show c < 9223372036854775807 by omega), wr c 1 (by omega), wr c 2 (by omega), wr c 3 (by omega), wr c 4 (by omega), wr c 5 (by omega), wr c 6 (by omega), wr c 7 (by omega), wr c 8 (by omega), wr c 9 (by omega), wr c 10 (by omega), wr c 11 (by omega), wr c 12 (by omega), wr c 13 (by omega), wr c 14 (by omega), wr c 15 (by omega), wr c 16 (by omega), wr c 17 (by omega), col_0 h, col_1 h, col_2 h, col_3 h, col_4 h, col_5 h, col_6 h, col_7 h, col_8 h, col_9 h, col_10 h, col_11 h, h_g h hi hc, ofInt_same]
  rw [dlt_t hi, dle0, blt_t hi, wrap_succ (show i < 9223372036854775807 by omega)]
  rfl
theorem held_loop (hM : M.length ≤ 1048576) : ∀ (k i fuel c : Nat), i + k = M.length → k < fuel → c + 18 * k < 1000000000 → (∀ j, j < k → M.getD (i + j) [] = mrow (c + 18 * j)) → r77l0b fuel (c : Int) (i : Int) M = (1, 0, ((c + 18 * k : Nat) : Int)) := by
  intro k
  induction k with
  | zero =>
    intro i fuel c h hf hc _
    obtain ⟨m, rfl⟩ : ∃ m, fuel = m + 1 := ⟨fuel - 1, by omega⟩
    show b77l0b (r77l0b m) _ _ _ = _
    unfold b77l0b
    rw [dlt_f (by omega)]; rfl
  | succ k ih =>
    intro i fuel c h hf hc hm
    obtain ⟨m, rfl⟩ : ∃ m, fuel = m + 1 := ⟨fuel - 1, by omega⟩
    show b77l0b (r77l0b m) _ _ _ = _
    have h0 : M.getD i [] = mrow c := hm 0 (by omega)
    rw [held_step _ h0 (by omega) hM (by omega), ih (i + 1) m (c + 18) (by omega) (by omega) (by omega) (fun j hj => by
      have := hm (j + 1) (by omega)
      rw [show i + 1 + j = i + (j + 1) by omega, this]; congr 1; omega)]
    rw [show c + 18 + 18 * k = c + 18 * (k + 1) by omega]

set_option maxHeartbeats 4000000
variable {L : List (List Int)} {i c : Nat}
noncomputable def marksN : Nat → Nat → Nat → List (List Int) → List (List Int)
  | 0, _, _, L => L
  | k + 1, c, i, L => marksN k (c + 18) (i + 1) (L.modify i fun _ => mrow c)
theorem mark_loop : ∀ (k i fuel c : Nat) (L : List (List Int)), i + k = L.length → k < fuel → L.length ≤ 1048576 → c + 18 * k < 1000000000 → r76l0b fuel (c : Int) (i : Int) L = (0, ((c + 18 * k : Nat) : Int), marksN k c i L) := by
  intro k
  induction k with
  | zero =>
    intro i fuel c L h hf hL hc
    obtain ⟨m, rfl⟩ : ∃ m, fuel = m + 1 := ⟨fuel - 1, by omega⟩
    show b76l0b (r76l0b m) _ _ _ = _
    unfold b76l0b
    rw [dlt_f (by omega)]; rfl
  | succ k ih =>
    intro i fuel c L h hf hL hc
    obtain ⟨m, rfl⟩ : ∃ m, fuel = m + 1 := ⟨fuel - 1, by omega⟩
    show b76l0b (r76l0b m) _ _ _ = _
    rw [mark_step _ (by omega) hL (by omega), ih (i + 1) m (c + 18) (L.modify i fun _ => mrow c) (by rw [List.length_modify]; omega) (by omega) (by rw [List.length_modify]; exact hL) (by omega)]
    rw [show c + 18 + 18 * k = c + 18 * (k + 1) by omega]
    rfl
theorem marks_len : ∀ (k c i : Nat) (L : List (List Int)), (marksN k c i L).length = L.length
  | 0, _, _, _ => rfl
  | k + 1, c, i, L => by
    show (marksN k (c + 18) (i + 1) (L.modify i fun _ => mrow c)).length = _
    rw [marks_len k, List.length_modify]
theorem marks_old : ∀ (k c i : Nat) (L : List (List Int)) (j : Nat), j < i → (marksN k c i L)[j]? = L[j]?
  | 0, _, _, _, _, _ => rfl
  | k + 1, c, i, L, j, h => by
    show (marksN k (c + 18) (i + 1) (L.modify i fun _ => mrow c))[j]? = _
    rw [marks_old k _ _ _ j (by omega), List.getElem?_modify]
    have hne : ¬ i = j := by omega
    cases L[j]? with
    | none => rfl
    | some a => simp [hne]
theorem marks_get : ∀ (k c i : Nat) (L : List (List Int)) (j : Nat), i + k = L.length → j < k → (marksN k c i L).getD (i + j) [] = mrow (c + 18 * j)
  | 0, _, _, _, _, _, h => by omega
  | k + 1, c, i, L, 0, h, _ => by
    show (marksN k (c + 18) (i + 1) (L.modify i fun _ => mrow c)).getD i [] = _
    rw [List.getD_eq_getElem?_getD, marks_old k _ _ _ i (by omega), List.getElem?_modify, List.getElem?_eq_getElem (by omega)]
    simp
  | k + 1, c, i, L, j + 1, h, hj => by
    show (marksN k (c + 18) (i + 1) (L.modify i fun _ => mrow c)).getD (i + (j + 1)) [] = _
    have := marks_get k (c + 18) (i + 1) (L.modify i fun _ => mrow c) j (by rw [List.length_modify]; omega) (by omega)
    rw [show i + (j + 1) = i + 1 + j by omega, this]
    congr 1; omega
theorem mark_eq (hL : L.length ≤ 1048576) : r76b 1 L = (0, ((1 + 18 * L.length : Nat) : Int), marksN L.length 1 0 L) := by
  have := mark_loop L.length 0 (1000 + L.length) 1 L (by omega) (by omega) hL (by omega)
  have e : r76l0b (1000 + L.length) 1 0 L = (0, ((1 + 18 * L.length : Nat) : Int), marksN L.length 1 0 L) := this
  unfold r76b w76b
  rw [e]; rfl

variable {M : List (List Int)}
theorem held_eq (hL : L.length ≤ 1048576) : r77b 1 (marksN L.length 1 0 L) = (0, ((1 + 18 * L.length : Nat) : Int)) := by
  have hlen := marks_len L.length 1 0 L
  have := held_loop (M := marksN L.length 1 0 L) (by rw [hlen]; exact hL) L.length 0 (1000 + (marksN L.length 1 0 L).length) 1 (by omega) (by omega) (by omega) (fun j hj => marks_get L.length 1 0 L j (by omega) hj)
  have e : r77l0b (1000 + (marksN L.length 1 0 L).length) 1 0 (marksN L.length 1 0 L) = (1, 0, ((1 + 18 * L.length : Nat) : Int)) := this
  unfold r77b w77b
  rw [e]; rfl

end Go.Proofs.YtbmagccjcccnaaaGreatDoor
