/- Flats: marks. -/
import Derived.Test.YtfnfapmncibjfaaPsw1
import Derived.Test.YtfnfapmncibjfaaA26
namespace Go.Proofs.Ytfnfapmncibjfaa
open Go.Ab

/-- a table whose rows are marked from row i on -/
def markT (M : Int → List Int) (C : Int) : Nat → Int → Nat → List (List Int) → List (List Int)
  | 0, _, _, l => l
  | n + 1, k, i, l => markT M C n (k + C) (i + 1) (l.set i (M k))
theorem markT_len (M : Int → List Int) (C : Int) : ∀ (n : Nat) (k : Int) (i : Nat) (l : List (List Int)), (markT M C n k i l).length = l.length
  | 0, _, _, _ => rfl
  | n + 1, k, i, l => by rw [markT, markT_len M C n, List.length_set]
theorem markT_old (M : Int → List Int) (C : Int) : ∀ (n : Nat) (k : Int) (i j : Nat) (l : List (List Int)), j < i → (markT M C n k i l).getD j [] = l.getD j []
  | 0, _, _, _, _, _ => rfl
  | n + 1, k, i, j, l, h => by
    rw [markT, markT_old M C n _ _ _ _ (by omega)]
    simp [List.getD, List.getElem?_set_ne (show i ≠ j by omega)]
theorem markT_get (M : Int → List Int) (C : Int) : ∀ (n : Nat) (k : Int) (i j : Nat) (l : List (List Int)), i + n = l.length → j < n → (markT M C n k i l).getD (i + j) [] = M (k + C * (j : Int))
  | 0, _, _, _, _, _, h => by omega
  | n + 1, k, i, 0, l, h, _ => by
    rw [markT, Nat.add_zero, markT_old M C n _ _ _ _ (by omega)]
    have hi : i < l.length := by omega
    simp [List.getD, hi]
  | n + 1, k, i, j + 1, l, h, hj => by
    rw [markT, show i + (j + 1) = i + 1 + j by omega, markT_get M C n _ _ _ _ (by rw [List.length_set]; omega) (by omega)]
    congr 1
    rw [show ((j + 1 : Nat) : Int) = (j : Int) + 1 by omega, Int.mul_add, Int.mul_one]
    omega
theorem modify_const (l : List (List Int)) (i : Nat) (x : List Int) : l.modify i (fun _ => x) = l.set i x := by
  apply List.ext_getElem?
  intro j
  by_cases h : i = j
  · subst h
    by_cases hi : i < l.length
    · simp [List.getElem?_modify, List.getElem?_set, hi]
    · simp [List.getElem?_modify, List.getElem?_set, hi]
  · simp [List.getElem?_modify, List.getElem?_set, h]
def M1 (k : Int) : List Int := [((ofInt .f32 k : Nat) : Int)]
def M4 (k : Int) : List Int := [k, k + 1, ((ofInt .f32 (k + 1 + 1) : Nat) : Int), ((ofInt .f32 (k + 1 + 1 + 1) : Nat) : Int)]
def M8 (k : Int) : List Int := [k, k + 1, ((ofInt .f32 (k + 1 + 1) : Nat) : Int), ((ofInt .f32 (k + 1 + 1 + 1) : Nat) : Int), ((ofInt .f32 (k + 1 + 1 + 1 + 1) : Nat) : Int), ((ofInt .f32 (k + 1 + 1 + 1 + 1 + 1) : Nat) : Int), ((ofInt .f32 (k + 1 + 1 + 1 + 1 + 1 + 1) : Nat) : Int), ((ofInt .f32 (k + 1 + 1 + 1 + 1 + 1 + 1 + 1) : Nat) : Int)]
theorem spl4 (r : List Int) (a b c d : Int) : spl 4 (spl 4 (spl 4 (spl 4 r 0 [a]) 1 [b]) 2 [c]) 3 [d] = [a, b, c, d] := rfl
theorem spl8 (r : List Int) (a b c d e f g h : Int) : spl 8 (spl 8 (spl 8 (spl 8 (spl 8 (spl 8 (spl 8 (spl 8 r 0 [a]) 1 [b]) 2 [c]) 3 [d]) 4 [e]) 5 [f]) 6 [g]) 7 [h] = [a, b, c, d, e, f, g, h] := rfl
theorem mod4 (l : List (List Int)) (i : Nat) (a b c d : Int) : (((l.modify i (fun r => spl 4 r 0 [a])).modify i (fun r => spl 4 r 1 [b])).modify i (fun r => spl 4 r 2 [c])).modify i (fun r => spl 4 r 3 [d]) = l.set i [a, b, c, d] := by
  rw [modify_modify, modify_modify, modify_modify]
  exact modify_const l i [a, b, c, d]
theorem mod8 (l : List (List Int)) (i : Nat) (a b c d e f g h : Int) : (((((((l.modify i (fun r => spl 8 r 0 [a])).modify i (fun r => spl 8 r 1 [b])).modify i (fun r => spl 8 r 2 [c])).modify i (fun r => spl 8 r 3 [d])).modify i (fun r => spl 8 r 4 [e])).modify i (fun r => spl 8 r 5 [f])).modify i (fun r => spl 8 r 6 [g])).modify i (fun r => spl 8 r 7 [h]) = l.set i [a, b, c, d, e, f, g, h] := by
  rw [modify_modify, modify_modify, modify_modify, modify_modify, modify_modify, modify_modify, modify_modify]
  exact modify_const l i [a, b, c, d, e, f, g, h]
theorem w1 {k : Int} (h0 : 0 ≤ k) (h1 : k ≤ 1000000000) : IntKind.i64.wrap (k + 1) = k + 1 := wrap_i64 (by omega) (by omega)
theorem walls4 {k : Int} {i : Nat} {l : List (List Int)} (h0 : 0 ≤ k) (h1 : k ≤ 100000000) (hi : i < l.length) : r85l1e k (i : Int) l = (0, k + 1 + 1 + 1 + 1, (((l.modify i (fun r => spl 8 r 4 [((ofInt .f32 k : Nat) : Int)])).modify i (fun r => spl 8 r 5 [((ofInt .f32 (k + 1) : Nat) : Int)])).modify i (fun r => spl 8 r 6 [((ofInt .f32 (k + 1 + 1) : Nat) : Int)])).modify i (fun r => spl 8 r 7 [((ofInt .f32 (k + 1 + 1 + 1) : Nat) : Int)])) := by
  unfold r85l1e r85l1d r85l1c r85l1b
  simp only [List.length_modify, Int.toNat_natCast]
  rw [dle0, blt_t hi, w1 h0 (by omega), w1 (show 0 ≤ k + 1 by omega) (by omega), w1 (show 0 ≤ k + 1 + 1 by omega) (by omega), w1 (show 0 ≤ k + 1 + 1 + 1 by omega) (by omega)]
  rfl
theorem mark33 : ∀ (n i fuel : Nat) (k : Int) (l : List (List Int)), i + n = l.length → n < fuel → 0 ≤ k → k + 1 * (n : Int) ≤ 100000000 → l.length ≤ 1048576 → r33l0 fuel k (i : Int) l = (0, k + 1 * (n : Int), markT M1 1 n k i l) := by
  intro n
  induction n with
  | zero =>
    intro i fuel k l h hf _ _ _
    obtain ⟨m, rfl⟩ : ∃ m, fuel = m + 1 := ⟨fuel - 1, by omega⟩
    show b33l0 (r33l0 m) _ _ _ = _
    unfold b33l0
    rw [dlt_f (by omega)]; simp [markT]
  | succ n ih =>
    intro i fuel k l h hf h0 h1 hl
    obtain ⟨m, rfl⟩ : ∃ m, fuel = m + 1 := ⟨fuel - 1, by omega⟩
    have hi : i < l.length := by omega
    have hk : k + 1 + 1 * (n : Int) = k + 1 * ((n + 1 : Nat) : Int) := by omega
    have g := ih (i + 1) m (k + 1) (l.set i (M1 k)) (by simp; omega) (by omega) (by omega) (by omega) (by simpa using hl)
    rw [hk] at g
    refine Eq.trans ?_ g
    show b33l0 (r33l0 m) _ _ _ = _
    unfold b33l0
    rw [dlt_t hi, dle0, Int.toNat_natCast, blt_t hi, wrap_succ (by omega), w1 h0 (by omega)]
    rfl
theorem mark86 : ∀ (n i fuel : Nat) (k : Int) (l : List (List Int)), i + n = l.length → n < fuel → 0 ≤ k → k + 4 * (n : Int) ≤ 100000000 → l.length ≤ 1048576 → r86l0 fuel k (i : Int) l = (0, k + 4 * (n : Int), markT M4 4 n k i l) := by
  intro n
  induction n with
  | zero =>
    intro i fuel k l h hf _ _ _
    obtain ⟨m, rfl⟩ : ∃ m, fuel = m + 1 := ⟨fuel - 1, by omega⟩
    show b86l0 (r86l0 m) _ _ _ = _
    unfold b86l0
    rw [dlt_f (by omega)]; simp [markT]
  | succ n ih =>
    intro i fuel k l h hf h0 h1 hl
    obtain ⟨m, rfl⟩ : ∃ m, fuel = m + 1 := ⟨fuel - 1, by omega⟩
    have hi : i < l.length := by omega
    have hk : k + 4 + 4 * (n : Int) = k + 4 * ((n + 1 : Nat) : Int) := by omega
    have g := ih (i + 1) m (k + 4) (l.set i (M4 k)) (by simp; omega) (by omega) (by omega) (by omega) (by simpa using hl)
    rw [hk] at g
    refine Eq.trans ?_ g
    show b86l0 (r86l0 m) _ _ _ = _
    unfold b86l0
    simp only [List.length_modify, Int.toNat_natCast]
    rw [w1 h0 (by omega), w1 (show 0 ≤ k + 1 by omega) (by omega), w1 (show 0 ≤ k + 1 + 1 by omega) (by omega), w1 (show 0 ≤ k + 1 + 1 + 1 by omega) (by omega), dlt_t hi, dle0, blt_t hi, wrap_succ (by omega), mod4, show k + 1 + 1 + 1 + 1 = k + 4 by omega]
    rfl
theorem mark85 : ∀ (n i fuel : Nat) (k : Int) (l : List (List Int)), i + n = l.length → n < fuel → 0 ≤ k → k + 8 * (n : Int) ≤ 100000000 → l.length ≤ 1048576 → r85l0 fuel k (i : Int) l = (0, k + 8 * (n : Int), markT M8 8 n k i l) := by
  intro n
  induction n with
  | zero =>
    intro i fuel k l h hf _ _ _
    obtain ⟨m, rfl⟩ : ∃ m, fuel = m + 1 := ⟨fuel - 1, by omega⟩
    show b85l0 (r85l0 m) _ _ _ = _
    unfold b85l0
    rw [dlt_f (by omega)]; simp [markT]
  | succ n ih =>
    intro i fuel k l h hf h0 h1 hl
    obtain ⟨m, rfl⟩ : ∃ m, fuel = m + 1 := ⟨fuel - 1, by omega⟩
    have hi : i < l.length := by omega
    have hk : k + 8 + 8 * (n : Int) = k + 8 * ((n + 1 : Nat) : Int) := by omega
    have g := ih (i + 1) m (k + 8) (l.set i (M8 k)) (by simp; omega) (by omega) (by omega) (by omega) (by simpa using hl)
    rw [hk] at g
    refine Eq.trans ?_ g
    show b85l0 (r85l0 m) _ _ _ = _
    unfold b85l0
    simp only [List.length_modify, Int.toNat_natCast]
    rw [w1 h0 (by omega), w1 (show 0 ≤ k + 1 by omega) (by omega), w1 (show 0 ≤ k + 1 + 1 by omega) (by omega), w1 (show 0 ≤ k + 1 + 1 + 1 by omega) (by omega), dlt_t hi, dle0, blt_t hi, wrap_succ (by omega), walls4 (by omega) (by omega) (by simpa using hi), mod8, show k + 1 + 1 + 1 + 1 + 1 + 1 + 1 + 1 = k + 8 by omega]
    rfl
theorem held34 {t : List (List Int)} (hl : t.length ≤ 1048576) : ∀ (n i fuel : Nat) (k : Int), i + n = t.length → n < fuel → 0 ≤ k → k + 1 * (n : Int) ≤ 100000000 → (∀ j, j < n → t.getD (i + j) [] = M1 (k + 1 * (j : Int))) → r34l0b fuel k (i : Int) t = (1, 0, k + 1 * (n : Int)) := by
  intro n
  induction n with
  | zero =>
    intro i fuel k h hf _ _ _
    obtain ⟨m, rfl⟩ : ∃ m, fuel = m + 1 := ⟨fuel - 1, by omega⟩
    show b34l0b (r34l0b m) _ _ _ = _
    unfold b34l0b
    rw [dlt_f (by omega)]; simp
  | succ n ih =>
    intro i fuel k h hf h0 h1 hm
    obtain ⟨m, rfl⟩ : ∃ m, fuel = m + 1 := ⟨fuel - 1, by omega⟩
    have hi : i < t.length := by omega
    have e0 : t.getD i [] = M1 k := by have := hm 0 (by omega); simpa using this
    have g := ih (i + 1) m (k + 1) (by omega) (by omega) (by omega) (by omega) (fun j hj => by
      have := hm (j + 1) (by omega)
      rw [show i + 1 + j = i + (j + 1) by omega, this]
      congr 1
      omega)
    rw [show k + 1 + 1 * (n : Int) = k + 1 * ((n + 1 : Nat) : Int) by omega] at g
    refine Eq.trans ?_ g
    show b34l0b (r34l0b m) _ _ _ = _
    unfold b34l0b
    rw [dlt_t hi, dle0, Int.toNat_natCast, blt_t hi, e0, show ((M1 k).getD 0 0) = ((ofInt .f32 k : Nat) : Int) from rfl, Int.toNat_natCast, ofInt_same, wrap_succ (by omega), w1 h0 (by omega)]
    rfl
theorem held90 {t : List (List Int)} (hl : t.length ≤ 1048576) : ∀ (n i fuel : Nat) (k : Int), i + n = t.length → n < fuel → 0 ≤ k → k + 4 * (n : Int) ≤ 100000000 → (∀ j, j < n → t.getD (i + j) [] = M4 (k + 4 * (j : Int))) → r90l0b fuel k (i : Int) t = (1, 0, k + 4 * (n : Int)) := by
  intro n
  induction n with
  | zero =>
    intro i fuel k h hf _ _ _
    obtain ⟨m, rfl⟩ : ∃ m, fuel = m + 1 := ⟨fuel - 1, by omega⟩
    show b90l0b (r90l0b m) _ _ _ = _
    unfold b90l0b
    rw [dlt_f (by omega)]; simp
  | succ n ih =>
    intro i fuel k h hf h0 h1 hm
    obtain ⟨m, rfl⟩ : ∃ m, fuel = m + 1 := ⟨fuel - 1, by omega⟩
    have hi : i < t.length := by omega
    have e0 : t.getD i [] = M4 k := by have := hm 0 (by omega); simpa using this
    have g := ih (i + 1) m (k + 4) (by omega) (by omega) (by omega) (by omega) (fun j hj => by
      have := hm (j + 1) (by omega)
      rw [show i + 1 + j = i + (j + 1) by omega, this]
      congr 1
      omega)
    rw [show k + 4 + 4 * (n : Int) = k + 4 * ((n + 1 : Nat) : Int) by omega] at g
    refine Eq.trans ?_ g
    show b90l0b (r90l0b m) _ _ _ = _
    unfold b90l0b
    rw [w1 h0 (by omega), w1 (show 0 ≤ k + 1 by omega) (by omega), w1 (show 0 ≤ k + 1 + 1 by omega) (by omega), w1 (show 0 ≤ k + 1 + 1 + 1 by omega) (by omega), dlt_t hi, dle0, Int.toNat_natCast, blt_t hi, e0, wrap_succ (by omega), show ((M4 k).getD 0 0) = k from rfl, show ((M4 k).getD 1 0) = k + 1 from rfl, show ((M4 k).getD 2 0) = ((ofInt .f32 (k + 1 + 1) : Nat) : Int) from rfl, show ((M4 k).getD 3 0) = ((ofInt .f32 (k + 1 + 1 + 1) : Nat) : Int) from rfl]
    simp only [Int.toNat_natCast, ofInt_same, bne_self_eq_false]
    rw [show k + 1 + 1 + 1 + 1 = k + 4 by omega]
    rfl
theorem heldw {t : List (List Int)} {i : Nat} {k : Int} (hi : i < t.length) (h0 : 0 ≤ k) (h1 : k ≤ 100000000) (e0 : t.getD i [] = M8 k) : r89l1e (k + 1 + 1 + 1 + 1) (i : Int) t = (1, 0, k + 8) := by
  unfold r89l1e r89l1d r89l1c r89l1b
  rw [w1 (show 0 ≤ k + 1 + 1 + 1 + 1 by omega) (by omega), w1 (show 0 ≤ k + 1 + 1 + 1 + 1 + 1 by omega) (by omega), w1 (show 0 ≤ k + 1 + 1 + 1 + 1 + 1 + 1 by omega) (by omega), w1 (show 0 ≤ k + 1 + 1 + 1 + 1 + 1 + 1 + 1 by omega) (by omega), dle0, Int.toNat_natCast, blt_t hi, e0, show ((M8 k).getD 4 0) = ((ofInt .f32 (k + 1 + 1 + 1 + 1) : Nat) : Int) from rfl, show ((M8 k).getD 5 0) = ((ofInt .f32 (k + 1 + 1 + 1 + 1 + 1) : Nat) : Int) from rfl, show ((M8 k).getD 6 0) = ((ofInt .f32 (k + 1 + 1 + 1 + 1 + 1 + 1) : Nat) : Int) from rfl, show ((M8 k).getD 7 0) = ((ofInt .f32 (k + 1 + 1 + 1 + 1 + 1 + 1 + 1) : Nat) : Int) from rfl]
  simp only [Int.toNat_natCast, ofInt_same]
  rw [show k + 1 + 1 + 1 + 1 + 1 + 1 + 1 + 1 = k + 8 by omega]
  rfl
theorem held89 {t : List (List Int)} (hl : t.length ≤ 1048576) : ∀ (n i fuel : Nat) (k : Int), i + n = t.length → n < fuel → 0 ≤ k → k + 8 * (n : Int) ≤ 100000000 → (∀ j, j < n → t.getD (i + j) [] = M8 (k + 8 * (j : Int))) → r89l0b fuel k (i : Int) t = (1, 0, k + 8 * (n : Int)) := by
  intro n
  induction n with
  | zero =>
    intro i fuel k h hf _ _ _
    obtain ⟨m, rfl⟩ : ∃ m, fuel = m + 1 := ⟨fuel - 1, by omega⟩
    show b89l0b (r89l0b m) _ _ _ = _
    unfold b89l0b
    rw [dlt_f (by omega)]; simp
  | succ n ih =>
    intro i fuel k h hf h0 h1 hm
    obtain ⟨m, rfl⟩ : ∃ m, fuel = m + 1 := ⟨fuel - 1, by omega⟩
    have hi : i < t.length := by omega
    have e0 : t.getD i [] = M8 k := by have := hm 0 (by omega); simpa using this
    have g := ih (i + 1) m (k + 8) (by omega) (by omega) (by omega) (by omega) (fun j hj => by
      have := hm (j + 1) (by omega)
      rw [show i + 1 + j = i + (j + 1) by omega, this]
      congr 1
      omega)
    rw [show k + 8 + 8 * (n : Int) = k + 8 * ((n + 1 : Nat) : Int) by omega] at g
    refine Eq.trans ?_ g
    show b89l0b (r89l0b m) _ _ _ = _
    unfold b89l0b
    rw [w1 h0 (by omega), w1 (show 0 ≤ k + 1 by omega) (by omega), w1 (show 0 ≤ k + 1 + 1 by omega) (by omega), w1 (show 0 ≤ k + 1 + 1 + 1 by omega) (by omega), dlt_t hi, dle0, Int.toNat_natCast, blt_t hi, heldw hi h0 (by omega) e0, e0, wrap_succ (by omega), show ((M8 k).getD 0 0) = k from rfl, show ((M8 k).getD 1 0) = k + 1 from rfl, show ((M8 k).getD 2 0) = ((ofInt .f32 (k + 1 + 1) : Nat) : Int) from rfl, show ((M8 k).getD 3 0) = ((ofInt .f32 (k + 1 + 1 + 1) : Nat) : Int) from rfl]
    simp only [Int.toNat_natCast, ofInt_same, bne_self_eq_false]
    rfl
theorem mk33 {k : Int} {l : List (List Int)} (hl : l.length ≤ 1048576) (h0 : 0 ≤ k) (h1 : k + 1 * (l.length : Int) ≤ 100000000) : r33 k l = (0, k + 1 * (l.length : Int), markT M1 1 l.length k 0 l) := by
  have g := mark33 l.length 0 (1000 + l.length) k l (by omega) (by omega) h0 h1 hl
  have g' : r33l0 (1000 + l.length) k 0 l = (0, k + 1 * (l.length : Int), markT M1 1 l.length k 0 l) := g
  unfold r33; rw [g']; rfl
theorem mk85 {k : Int} {l : List (List Int)} (hl : l.length ≤ 1048576) (h0 : 0 ≤ k) (h1 : k + 8 * (l.length : Int) ≤ 100000000) : r85 k l = (0, k + 8 * (l.length : Int), markT M8 8 l.length k 0 l) := by
  have g := mark85 l.length 0 (1000 + l.length) k l (by omega) (by omega) h0 h1 hl
  have g' : r85l0 (1000 + l.length) k 0 l = (0, k + 8 * (l.length : Int), markT M8 8 l.length k 0 l) := g
  unfold r85; rw [g']; rfl
theorem mk86 {k : Int} {l : List (List Int)} (hl : l.length ≤ 1048576) (h0 : 0 ≤ k) (h1 : k + 4 * (l.length : Int) ≤ 100000000) : r86 k l = (0, k + 4 * (l.length : Int), markT M4 4 l.length k 0 l) := by
  have g := mark86 l.length 0 (1000 + l.length) k l (by omega) (by omega) h0 h1 hl
  have g' : r86l0 (1000 + l.length) k 0 l = (0, k + 4 * (l.length : Int), markT M4 4 l.length k 0 l) := g
  unfold r86; rw [g']; rfl
theorem hd34 {k : Int} {l : List (List Int)} (hl : l.length ≤ 1048576) (h0 : 0 ≤ k) (h1 : k + 1 * (l.length : Int) ≤ 100000000) : r34b k (markT M1 1 l.length k 0 l) = (0, k + 1 * (l.length : Int)) := by
  have hL := markT_len M1 1 l.length k 0 l
  have g := held34 (t := markT M1 1 l.length k 0 l) (by omega) l.length 0 (1000 + (markT M1 1 l.length k 0 l).length) k (by omega) (by omega) h0 h1 (fun j hj => markT_get M1 1 l.length k 0 j l (by omega) hj)
  have g' : r34l0b (1000 + (markT M1 1 l.length k 0 l).length) k 0 (markT M1 1 l.length k 0 l) = (1, 0, k + 1 * (l.length : Int)) := g
  unfold r34b; rw [g']; rfl
theorem hd89 {k : Int} {l : List (List Int)} (hl : l.length ≤ 1048576) (h0 : 0 ≤ k) (h1 : k + 8 * (l.length : Int) ≤ 100000000) : r89b k (markT M8 8 l.length k 0 l) = (0, k + 8 * (l.length : Int)) := by
  have hL := markT_len M8 8 l.length k 0 l
  have g := held89 (t := markT M8 8 l.length k 0 l) (by omega) l.length 0 (1000 + (markT M8 8 l.length k 0 l).length) k (by omega) (by omega) h0 h1 (fun j hj => markT_get M8 8 l.length k 0 j l (by omega) hj)
  have g' : r89l0b (1000 + (markT M8 8 l.length k 0 l).length) k 0 (markT M8 8 l.length k 0 l) = (1, 0, k + 8 * (l.length : Int)) := g
  unfold r89b; rw [g']; rfl
theorem hd90 {k : Int} {l : List (List Int)} (hl : l.length ≤ 1048576) (h0 : 0 ≤ k) (h1 : k + 4 * (l.length : Int) ≤ 100000000) : r90b k (markT M4 4 l.length k 0 l) = (0, k + 4 * (l.length : Int)) := by
  have hL := markT_len M4 4 l.length k 0 l
  have g := held90 (t := markT M4 4 l.length k 0 l) (by omega) l.length 0 (1000 + (markT M4 4 l.length k 0 l).length) k (by omega) (by omega) h0 h1 (fun j hj => markT_get M4 4 l.length k 0 j l (by omega) hj)
  have g' : r90l0b (1000 + (markT M4 4 l.length k 0 l).length) k 0 (markT M4 4 l.length k 0 l) = (1, 0, k + 4 * (l.length : Int)) := g
  unfold r90b; rw [g']; rfl
/-- what the marks of a flat count up to -/
def mTop (a b c d : List (List Int)) : Int := 1 + 1 * (a.length : Int) + 1 * (b.length : Int) + 8 * (c.length : Int) + 4 * (d.length : Int)
theorem markF {a b c d : List (List Int)} (l0 : a.length ≤ 1048576) (l1 : b.length ≤ 1048576) (l2 : c.length ≤ 1048576) (l3 : d.length ≤ 1048576) : ∃ a' b' c' d', r32 1 a b c d = (0, mTop a b c d, a', b', c', d') ∧ r37b 1 a' b' c' d' = (0, mTop a b c d) := by
  refine ⟨markT M1 1 a.length 1 0 a, markT M1 1 b.length (1 + 1 * (a.length : Int)) 0 b, markT M8 8 c.length (1 + 1 * (a.length : Int) + 1 * (b.length : Int)) 0 c, markT M4 4 d.length (1 + 1 * (a.length : Int) + 1 * (b.length : Int) + 8 * (c.length : Int)) 0 d, ?_, ?_⟩
  · unfold r32
    rw [mk33 l0 (by omega) (by omega)]
    dsimp only
    rw [mk33 l1 (by omega) (by omega)]
    dsimp only
    rw [mk85 l2 (by omega) (by omega)]
    dsimp only
    rw [mk86 l3 (by omega) (by omega)]
    rfl
  · unfold r37b
    rw [hd34 l0 (by omega) (by omega)]
    dsimp only
    rw [decide_eq_false (show ¬ 1 + 1 * (a.length : Int) < 0 by omega), hd34 l1 (by omega) (by omega)]
    dsimp only
    rw [decide_eq_false (show ¬ 1 + 1 * (a.length : Int) + 1 * (b.length : Int) < 0 by omega), hd89 l2 (by omega) (by omega)]
    dsimp only
    rw [decide_eq_false (show ¬ 1 + 1 * (a.length : Int) + 1 * (b.length : Int) + 8 * (c.length : Int) < 0 by omega), hd90 l3 (by omega) (by omega)]
    dsimp only
    rw [decide_eq_false (show ¬ 1 + 1 * (a.length : Int) + 1 * (b.length : Int) + 8 * (c.length : Int) + 4 * (d.length : Int) < 0 by omega)]
    rfl
theorem mTop_pos (a b c d : List (List Int)) : 0 ≤ mTop a b c d := by unfold mTop; omega
end Go.Proofs.Ytfnfapmncibjfaa