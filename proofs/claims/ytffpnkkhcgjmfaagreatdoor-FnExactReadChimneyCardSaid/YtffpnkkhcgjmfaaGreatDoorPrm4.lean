/- Chimneys: marks. -/
import Derived.Test.YtffpnkkhcgjmfaaGreatDoorPrm3
import Derived.Test.YtffpnkkhcgjmfaaGreatDoorA26
namespace Go.Proofs.YtffpnkkhcgjmfaaGreatDoor
open Go.Ab

/-- a table whose rows are marked from row i on -/
def markT (M : Int → List Int) (C : Int) : Nat → Int → Nat → List (List Int) → List (List Int)
  | 0, _, _, l => l
  | n + 1, k, i, l => markT M C n (k + C) (i + 1) (l.set i (M k))
theorem markT_len (M : Int → List Int) (C : Int) : ∀ (n : Nat) (k : Int) (i : Nat) (l : List (List Int)), (markT M C n k i l).length = l.length
  | 0, _, _, _ => rfl
  | n + 1, k, i, l => by rw [markT, markT_len M C n, List.length_set]
theorem markT_old (M : Int → List Int) (C : Int) : ∀ (n : Nat) (k : Int) (i j : Nat) (l : List (List Int)), j < i → (markT M C n k i l).getD j [] = l.getD j []
  | 0, _, _, _, _, _ => rfl
  | n + 1, k, i, j, l, h => by
    rw [markT, markT_old M C n _ _ _ _ (by omega)]
    simp [List.getD, List.getElem?_set_ne (show i ≠ j by omega)]
theorem markT_get (M : Int → List Int) (C : Int) : ∀ (n : Nat) (k : Int) (i j : Nat) (l : List (List Int)), i + n = l.length → j < n → (markT M C n k i l).getD (i + j) [] = M (k + C * (j : Int))
  | 0, _, _, _, _, _, h => by omega
  | n + 1, k, i, 0, l, h, _ => by
    rw [markT, Nat.add_zero, markT_old M C n _ _ _ _ (by omega)]
    have hi : i < l.length := by omega
    simp [List.getD, hi]
  | n + 1, k, i, j + 1, l, h, hj => by
    rw [markT, show i + (j + 1) = i + 1 + j by omega, markT_get M C n _ _ _ _ (by rw [List.length_set]; omega) (by omega)]
    congr 1
    rw [show ((j + 1 : Nat) : Int) = (j : Int) + 1 by omega, Int.mul_add, Int.mul_one]
    omega
theorem modify_const (l : List (List Int)) (i : Nat) (x : List Int) : l.modify i (fun _ => x) = l.set i x := by
  apply List.ext_getElem?
  intro j
  by_cases h : i = j
  · subst h
    by_cases hi : i < l.length
    · simp [List.getElem?_modify, List.getElem?_set, hi]
    · simp [List.getElem?_modify, List.getElem?_set, hi]
  · simp [List.getElem?_modify, List.getElem?_set, h]
def M5 (k : Int) : List Int := [((ofInt .f32 k : Nat) : Int), ((ofInt .f32 (k + 1) : Nat) : Int), ((ofInt .f32 (k + 1 + 1) : Nat) : Int), ((ofInt .f32 (k + 1 + 1 + 1) : Nat) : Int), k + 1 + 1 + 1 + 1]
theorem spl5 (r : List Int) (a b c d e : Int) : spl 5 (spl 5 (spl 5 (spl 5 (spl 5 r 0 [a]) 1 [b]) 2 [c]) 3 [d]) 4 [e] = [a, b, c, d, e] := rfl
theorem mod5 (l : List (List Int)) (i : Nat) (a b c d e : Int) : ((((l.modify i (fun r => spl 5 r 0 [a])).modify i (fun r => spl 5 r 1 [b])).modify i (fun r => spl 5 r 2 [c])).modify i (fun r => spl 5 r 3 [d])).modify i (fun r => spl 5 r 4 [e]) = l.set i [a, b, c, d, e] := by
  rw [modify_modify, modify_modify, modify_modify, modify_modify]
  exact modify_const l i [a, b, c, d, e]
theorem w1 {k : Int} (h0 : 0 ≤ k) (h1 : k ≤ 1000000000) : IntKind.i64.wrap (k + 1) = k + 1 := wrap_i64 (by omega) (by omega)
theorem mark9 : ∀ (n i fuel : Nat) (k : Int) (l : List (List Int)), i + n = l.length → n < fuel → 0 ≤ k → k + 5 * (n : Int) ≤ 100000000 → l.length ≤ 1048576 → r9l0b fuel k (i : Int) l = (0, k + 5 * (n : Int), markT M5 5 n k i l) := by
  intro n
  induction n with
  | zero =>
    intro i fuel k l h hf _ _ _
    obtain ⟨m, rfl⟩ : ∃ m, fuel = m + 1 := ⟨fuel - 1, by omega⟩
    show b9l0b (r9l0b m) _ _ _ = _
    unfold b9l0b
    rw [dlt_f (by omega)]; simp [markT]
  | succ n ih =>
    intro i fuel k l h hf h0 h1 hl
    obtain ⟨m, rfl⟩ : ∃ m, fuel = m + 1 := ⟨fuel - 1, by omega⟩
    have hi : i < l.length := by omega
    have hk : k + 5 + 5 * (n : Int) = k + 5 * ((n + 1 : Nat) : Int) := by omega
    have g := ih (i + 1) m (k + 5) (l.set i (M5 k)) (by simp; omega) (by omega) (by omega) (by omega) (by simpa using hl)
    rw [hk] at g
    refine Eq.trans ?_ g
    show b9l0b (r9l0b m) _ _ _ = _
    unfold b9l0b
    simp only [List.length_modify, Int.toNat_natCast]
    rw [w1 h0 (by omega), w1 (show 0 ≤ k + 1 by omega) (by omega), w1 (show 0 ≤ k + 1 + 1 by omega) (by omega), w1 (show 0 ≤ k + 1 + 1 + 1 by omega) (by omega), w1 (show 0 ≤ k + 1 + 1 + 1 + 1 by omega) (by omega), dlt_t hi, dle0, blt_t hi, wrap_succ (by omega), mod5, show k + 1 + 1 + 1 + 1 + 1 = k + 5 by omega]
    rfl
theorem held10 {t : List (List Int)} (hl : t.length ≤ 1048576) : ∀ (n i fuel : Nat) (k : Int), i + n = t.length → n < fuel → 0 ≤ k → k + 5 * (n : Int) ≤ 100000000 → (∀ j, j < n → t.getD (i + j) [] = M5 (k + 5 * (j : Int))) → r10l0b fuel k (i : Int) t = (1, 0, k + 5 * (n : Int)) := by
  intro n
  induction n with
  | zero =>
    intro i fuel k h hf _ _ _
    obtain ⟨m, rfl⟩ : ∃ m, fuel = m + 1 := ⟨fuel - 1, by omega⟩
    show b10l0b (r10l0b m) _ _ _ = _
    unfold b10l0b
    rw [dlt_f (by omega)]; simp
  | succ n ih =>
    intro i fuel k h hf h0 h1 hm
    obtain ⟨m, rfl⟩ : ∃ m, fuel = m + 1 := ⟨fuel - 1, by omega⟩
    have hi : i < t.length := by omega
    have e0 : t.getD i [] = M5 k := by have := hm 0 (by omega); simpa using this
    have g := ih (i + 1) m (k + 5) (by omega) (by omega) (by omega) (by omega) (fun j hj => by
      have := hm (j + 1) (by omega)
      rw [show i + 1 + j = i + (j + 1) by omega, this]
      congr 1
      omega)
    rw [show k + 5 + 5 * (n : Int) = k + 5 * ((n + 1 : Nat) : Int) by omega] at g
    refine Eq.trans ?_ g
    show b10l0b (r10l0b m) _ _ _ = _
    unfold b10l0b
    rw [w1 h0 (by omega), w1 (show 0 ≤ k + 1 by omega) (by omega), w1 (show 0 ≤ k + 1 + 1 by omega) (by omega), w1 (show 0 ≤ k + 1 + 1 + 1 by omega) (by omega), w1 (show 0 ≤ k + 1 + 1 + 1 + 1 by omega) (by omega), dlt_t hi, dle0, Int.toNat_natCast, blt_t hi, e0, wrap_succ (by omega), show ((M5 k).getD 0 0) = ((ofInt .f32 k : Nat) : Int) from rfl, show ((M5 k).getD 1 0) = ((ofInt .f32 (k + 1) : Nat) : Int) from rfl, show ((M5 k).getD 2 0) = ((ofInt .f32 (k + 1 + 1) : Nat) : Int) from rfl, show ((M5 k).getD 3 0) = ((ofInt .f32 (k + 1 + 1 + 1) : Nat) : Int) from rfl, show ((M5 k).getD 4 0) = k + 1 + 1 + 1 + 1 from rfl]
    simp only [Int.toNat_natCast, ofInt_same, bne_self_eq_false]
    rw [show k + 1 + 1 + 1 + 1 + 1 = k + 5 by omega]
    rfl
theorem markF {l : List (List Int)} (hl : l.length ≤ 1048576) : ∃ l' : List (List Int), r9b 1 l = (0, 1 + 5 * (l.length : Int), l') ∧ r10b 1 l' = (0, 1 + 5 * (l.length : Int)) := by
  refine ⟨markT M5 5 l.length 1 0 l, ?_, ?_⟩
  · have g := mark9 l.length 0 (1000 + l.length) 1 l (by omega) (by omega) (by omega) (by omega) hl
    have g' : r9l0b (1000 + l.length) 1 0 l = (0, 1 + 5 * (l.length : Int), markT M5 5 l.length 1 0 l) := g
    unfold r9b w9b; rw [g']; rfl
  · have hL := markT_len M5 5 l.length 1 0 l
    have g := held10 (t := markT M5 5 l.length 1 0 l) (by omega) l.length 0 (1000 + (markT M5 5 l.length 1 0 l).length) 1 (by omega) (by omega) (by omega) (by omega) (fun j hj => markT_get M5 5 l.length 1 0 j l (by omega) hj)
    have g' : r10l0b (1000 + (markT M5 5 l.length 1 0 l).length) 1 0 (markT M5 5 l.length 1 0 l) = (1, 0, 1 + 5 * (l.length : Int)) := g
    unfold r10b w10b; rw [g']; rfl
end Go.Proofs.YtffpnkkhcgjmfaaGreatDoor
