import Derived.Test.YtbmagccjcccnaaaPd2e
namespace Go.Proofs.Ytbmagccjcccnaaa
open Go.Ab
set_option maxHeartbeats 4000000
variable {L : List (List Int)} {i c : Nat}
variable {M : List (List Int)}
theorem h_b (h : M.getD i [] = mrow c) (hi : i < M.length) (hc : c < 1000000000) : r69l3b ((c + 17 : Nat) : Int) (i : Int) M = (1, ((c + 18 : Nat) : Int)) := by
  unfold r69l3b
  rw [Int.toNat_natCast, dle0, blt_t hi, col_17 h, ofInt_same, wr c 17 (by omega)]
  rfl
theorem h_c (h : M.getD i [] = mrow c) (hi : i < M.length) (hc : c < 1000000000) : r69l3c ((c + 16 : Nat) : Int) (i : Int) M = (1, 0, ((c + 18 : Nat) : Int)) := by
  unfold r69l3c
  rw [Int.toNat_natCast, dle0, blt_t hi, col_16 h, ofInt_same, wr c 16 (by omega)]
  rw [h_b h hi hc]; rfl
theorem h_d (h : M.getD i [] = mrow c) (hi : i < M.length) (hc : c < 1000000000) : r69l3d ((c + 15 : Nat) : Int) (i : Int) M = (1, 0, ((c + 18 : Nat) : Int)) := by
  unfold r69l3d
  rw [Int.toNat_natCast, dle0, blt_t hi, col_15 h, ofInt_same, wr c 15 (by omega)]
  rw [h_c h hi hc]; rfl
theorem h_e (h : M.getD i [] = mrow c) (hi : i < M.length) (hc : c < 1000000000) : r69l3e ((c + 14 : Nat) : Int) (i : Int) M = (1, 0, ((c + 18 : Nat) : Int)) := by
  unfold r69l3e
  rw [Int.toNat_natCast, dle0, blt_t hi, col_14 h, ofInt_same, wr c 14 (by omega)]
  rw [h_d h hi hc]; rfl
theorem h_f (h : M.getD i [] = mrow c) (hi : i < M.length) (hc : c < 1000000000) : r69l3f ((c + 13 : Nat) : Int) (i : Int) M = (1, 0, ((c + 18 : Nat) : Int)) := by
  unfold r69l3f
  rw [Int.toNat_natCast, dle0, blt_t hi, col_13 h, ofInt_same, wr c 13 (by omega)]
  rw [h_e h hi hc]; rfl
theorem h_g (h : M.getD i [] = mrow c) (hi : i < M.length) (hc : c < 1000000000) : r69l3g ((c + 12 : Nat) : Int) (i : Int) M = (1, 0, ((c + 18 : Nat) : Int)) := by
  unfold r69l3g
  rw [Int.toNat_natCast, dle0, blt_t hi, col_12 h, ofInt_same, wr c 12 (by omega)]
  rw [h_f h hi hc]; rfl
end Go.Proofs.Ytbmagccjcccnaaa
