import Derived.Test.YtbmagccjcccnaaaPd2b
import Derived.Test.YtbmagccjcccnaaaPd2c
namespace Go.Proofs.Ytbmagccjcccnaaa
open Go.Ab
set_option maxHeartbeats 4000000
variable {L : List (List Int)} {i c : Nat}
noncomputable def marksN : Nat → Nat → Nat → List (List Int) → List (List Int)
  | 0, _, _, L => L
  | k + 1, c, i, L => marksN k (c + 18) (i + 1) (L.modify i fun _ => mrow c)
theorem mark_loop : ∀ (k i fuel c : Nat) (L : List (List Int)), i + k = L.length → k < fuel → L.length ≤ 1048576 → c + 18 * k < 1000000000 → r68l0 fuel (c : Int) (i : Int) L = (0, ((c + 18 * k : Nat) : Int), marksN k c i L) := by
  intro k
  induction k with
  | zero =>
    intro i fuel c L h hf hL hc
    obtain ⟨m, rfl⟩ : ∃ m, fuel = m + 1 := ⟨fuel - 1, by omega⟩
    show b68l0 (r68l0 m) _ _ _ = _
    unfold b68l0
    rw [dlt_f (by omega)]; rfl
  | succ k ih =>
    intro i fuel c L h hf hL hc
    obtain ⟨m, rfl⟩ : ∃ m, fuel = m + 1 := ⟨fuel - 1, by omega⟩
    show b68l0 (r68l0 m) _ _ _ = _
    rw [mark_step _ (by omega) hL (by omega), ih (i + 1) m (c + 18) (L.modify i fun _ => mrow c) (by rw [List.length_modify]; omega) (by omega) (by rw [List.length_modify]; exact hL) (by omega)]
    rw [show c + 18 + 18 * k = c + 18 * (k + 1) by omega]
    rfl
theorem marks_len : ∀ (k c i : Nat) (L : List (List Int)), (marksN k c i L).length = L.length
  | 0, _, _, _ => rfl
  | k + 1, c, i, L => by
    show (marksN k (c + 18) (i + 1) (L.modify i fun _ => mrow c)).length = _
    rw [marks_len k, List.length_modify]
theorem marks_old : ∀ (k c i : Nat) (L : List (List Int)) (j : Nat), j < i → (marksN k c i L)[j]? = L[j]?
  | 0, _, _, _, _, _ => rfl
  | k + 1, c, i, L, j, h => by
    show (marksN k (c + 18) (i + 1) (L.modify i fun _ => mrow c))[j]? = _
    rw [marks_old k _ _ _ j (by omega), List.getElem?_modify]
    have hne : ¬ i = j := by omega
    cases L[j]? with
    | none => rfl
    | some a => simp [hne]
theorem marks_get : ∀ (k c i : Nat) (L : List (List Int)) (j : Nat), i + k = L.length → j < k → (marksN k c i L).getD (i + j) [] = mrow (c + 18 * j)
  | 0, _, _, _, _, _, h => by omega
  | k + 1, c, i, L, 0, h, _ => by
    show (marksN k (c + 18) (i + 1) (L.modify i fun _ => mrow c)).getD i [] = _
    rw [List.getD_eq_getElem?_getD, marks_old k _ _ _ i (by omega), List.getElem?_modify, List.getElem?_eq_getElem (by omega)]
    simp
  | k + 1, c, i, L, j + 1, h, hj => by
    show (marksN k (c + 18) (i + 1) (L.modify i fun _ => mrow c)).getD (i + (j + 1)) [] = _
    have := marks_get k (c + 18) (i + 1) (L.modify i fun _ => mrow c) j (by rw [List.length_modify]; omega) (by omega)
    rw [show i + (j + 1) = i + 1 + j by omega, this]
    congr 1; omega
theorem mark_eq (hL : L.length ≤ 1048576) : r68 1 L = (0, ((1 + 18 * L.length : Nat) : Int), marksN L.length 1 0 L) := by
  have := mark_loop L.length 0 (1000 + L.length) 1 L (by omega) (by omega) hL (by omega)
  have e : r68l0 (1000 + L.length) 1 0 L = (0, ((1 + 18 * L.length : Nat) : Int), marksN L.length 1 0 L) := this
  unfold r68
  rw [e]; rfl

variable {M : List (List Int)}
theorem held_eq (hL : L.length ≤ 1048576) : r69b 1 (marksN L.length 1 0 L) = (0, ((1 + 18 * L.length : Nat) : Int)) := by
  have hlen := marks_len L.length 1 0 L
  have := held_loop (M := marksN L.length 1 0 L) (by rw [hlen]; exact hL) L.length 0 (1000 + (marksN L.length 1 0 L).length) 1 (by omega) (by omega) (by omega) (fun j hj => marks_get L.length 1 0 L j (by omega) hj)
  have e : r69l0b (1000 + (marksN L.length 1 0 L).length) 1 0 (marksN L.length 1 0 L) = (1, 0, ((1 + 18 * L.length : Nat) : Int)) := this
  unfold r69b
  rw [e]; rfl
end Go.Proofs.Ytbmagccjcccnaaa
