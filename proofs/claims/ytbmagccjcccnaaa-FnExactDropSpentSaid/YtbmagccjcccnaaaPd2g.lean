import Derived.Test.YtbmagccjcccnaaaPd2a
namespace Go.Proofs.Ytbmagccjcccnaaa
open Go.Ab
theorem mget (c j : Nat) (hj : j < 18) : (mrow c)[j]? = some ((ofInt .f32 ((c + j : Nat) : Int) : Nat) : Int) := by
  unfold mrow
  match j, hj with
  | 0, _ => rfl
  | 1, _ => rfl
  | 2, _ => rfl
  | 3, _ => rfl
  | 4, _ => rfl
  | 5, _ => rfl
  | 6, _ => rfl
  | 7, _ => rfl
  | 8, _ => rfl
  | 9, _ => rfl
  | 10, _ => rfl
  | 11, _ => rfl
  | 12, _ => rfl
  | 13, _ => rfl
  | 14, _ => rfl
  | 15, _ => rfl
  | 16, _ => rfl
  | 17, _ => rfl
  | n + 18, h => exact absurd h (by omega)
theorem colJ {M : List (List Int)} {i c : Nat} (h : M.getD i [] = mrow c) (j : Nat) (hj : j < 18) : Int.toNat ((M.getD i []).getD j 0) = ofInt .f32 ((c + j : Nat) : Int) := by
  have e : (mrow c).getD j 0 = ((ofInt .f32 ((c + j : Nat) : Int) : Nat) : Int) := by
    rw [List.getD_eq_getElem?_getD, mget c j hj]
    exact Option.getD_some
  have e2 : (M.getD i []).getD j 0 = ((ofInt .f32 ((c + j : Nat) : Int) : Nat) : Int) := (congrArg (fun r => r.getD j 0) h).trans e
  exact (congrArg Int.toNat e2).trans (Int.toNat_natCast _)
end Go.Proofs.Ytbmagccjcccnaaa
