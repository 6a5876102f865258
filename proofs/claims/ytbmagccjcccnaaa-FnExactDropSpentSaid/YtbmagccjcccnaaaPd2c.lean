import Derived.Test.YtbmagccjcccnaaaPd2f
namespace Go.Proofs.Ytbmagccjcccnaaa
open Go.Ab
set_option maxHeartbeats 4000000
variable {L : List (List Int)} {i c : Nat}
variable {M : List (List Int)}
theorem held_step (ih : Int → Int → List (List Int) → (Nat × Int × Int)) (h : M.getD i [] = mrow c) (hi : i < M.length) (hM : M.length ≤ 1048576) (hc : c < 1000000000) : b69l0b ih (c : Int) (i : Int) M = ih ((c + 18 : Nat) : Int) ((i + 1 : Nat) : Int) M := by
  unfold b69l0b
  simp only [Int.toNat_natCast, wrap_succ (show c < 9223372036854775807 by omega), wr c 1 (by omega), wr c 2 (by omega), wr c 3 (by omega), wr c 4 (by omega), wr c 5 (by omega), wr c 6 (by omega), wr c 7 (by omega), wr c 8 (by omega), wr c 9 (by omega), wr c 10 (by omega), wr c 11 (by omega), wr c 12 (by omega), wr c 13 (by omega), wr c 14 (by omega), wr c 15 (by omega), wr c 16 (by omega), wr c 17 (by omega), col_0 h, col_1 h, col_2 h, col_3 h, col_4 h, col_5 h, col_6 h, col_7 h, col_8 h, col_9 h, col_10 h, col_11 h, h_g h hi hc, ofInt_same]
  rw [dlt_t hi, dle0, blt_t hi, wrap_succ (show i < 9223372036854775807 by omega)]
  rfl
theorem held_loop (hM : M.length ≤ 1048576) : ∀ (k i fuel c : Nat), i + k = M.length → k < fuel → c + 18 * k < 1000000000 → (∀ j, j < k → M.getD (i + j) [] = mrow (c + 18 * j)) → r69l0b fuel (c : Int) (i : Int) M = (1, 0, ((c + 18 * k : Nat) : Int)) := by
  intro k
  induction k with
  | zero =>
    intro i fuel c h hf hc _
    obtain ⟨m, rfl⟩ : ∃ m, fuel = m + 1 := ⟨fuel - 1, by omega⟩
    show b69l0b (r69l0b m) _ _ _ = _
    unfold b69l0b
    rw [dlt_f (by omega)]; rfl
  | succ k ih =>
    intro i fuel c h hf hc hm
    obtain ⟨m, rfl⟩ : ∃ m, fuel = m + 1 := ⟨fuel - 1, by omega⟩
    show b69l0b (r69l0b m) _ _ _ = _
    have h0 : M.getD i [] = mrow c := hm 0 (by omega)
    rw [held_step _ h0 (by omega) hM (by omega), ih (i + 1) m (c + 18) (by omega) (by omega) (by omega) (fun j hj => by
      have := hm (j + 1) (by omega)
      rw [show i + 1 + j = i + (j + 1) by omega, this]; congr 1; omega)]
    rw [show c + 18 + 18 * k = c + 18 * (k + 1) by omega]
end Go.Proofs.Ytbmagccjcccnaaa
