import Derived.Test.YtbmagccjcccnaaaPd2a
namespace Go.Proofs.Ytbmagccjcccnaaa
open Go.Ab
set_option maxHeartbeats 4000000
variable {L : List (List Int)} {i c : Nat}
theorem mark_step (ih : Int → Int → List (List Int) → (Nat × Int × List (List Int))) (hi : i < L.length) (hL : L.length ≤ 1048576) (hc : c < 1000000000) : b68l0 ih (c : Int) (i : Int) L = ih ((c + 18 : Nat) : Int) ((i + 1 : Nat) : Int) (L.modify i fun _ => mrow c) := by
  unfold b68l0
  rw [m_g hi (by omega), Int.toNat_natCast, dlt_t hi, dle0, wrap_succ (show i < 9223372036854775807 by omega)]
  simp only [List.length_modify, blt_t hi, modify_modify, wr c 6 (by omega), wr c 7 (by omega), wr c 8 (by omega), wr c 9 (by omega), wr c 10 (by omega), wr c 11 (by omega), wr c 12 (by omega), wr c 13 (by omega), wr c 14 (by omega), wr c 15 (by omega), wr c 16 (by omega), wr c 17 (by omega)]
  rfl
end Go.Proofs.Ytbmagccjcccnaaa
