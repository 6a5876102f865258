import Derived.Test.YtbmagccjcccnaaaPd2g
namespace Go.Proofs.Ytbmagccjcccnaaa
open Go.Ab
set_option maxHeartbeats 4000000
variable {L : List (List Int)} {i c : Nat}
variable {M : List (List Int)}
theorem col_0 (h : M.getD i [] = mrow c) : Int.toNat ((M.getD i []).getD 0 0) = ofInt .f32 (((c : Nat) : Int) : Int) := colJ h 0 (by decide)
theorem col_1 (h : M.getD i [] = mrow c) : Int.toNat ((M.getD i []).getD 1 0) = ofInt .f32 (((c + 1 : Nat) : Int) : Int) := colJ h 1 (by decide)
theorem col_2 (h : M.getD i [] = mrow c) : Int.toNat ((M.getD i []).getD 2 0) = ofInt .f32 (((c + 2 : Nat) : Int) : Int) := colJ h 2 (by decide)
theorem col_3 (h : M.getD i [] = mrow c) : Int.toNat ((M.getD i []).getD 3 0) = ofInt .f32 (((c + 3 : Nat) : Int) : Int) := colJ h 3 (by decide)
theorem col_4 (h : M.getD i [] = mrow c) : Int.toNat ((M.getD i []).getD 4 0) = ofInt .f32 (((c + 4 : Nat) : Int) : Int) := colJ h 4 (by decide)
theorem col_5 (h : M.getD i [] = mrow c) : Int.toNat ((M.getD i []).getD 5 0) = ofInt .f32 (((c + 5 : Nat) : Int) : Int) := colJ h 5 (by decide)
theorem col_6 (h : M.getD i [] = mrow c) : Int.toNat ((M.getD i []).getD 6 0) = ofInt .f32 (((c + 6 : Nat) : Int) : Int) := colJ h 6 (by decide)
theorem col_7 (h : M.getD i [] = mrow c) : Int.toNat ((M.getD i []).getD 7 0) = ofInt .f32 (((c + 7 : Nat) : Int) : Int) := colJ h 7 (by decide)
theorem col_8 (h : M.getD i [] = mrow c) : Int.toNat ((M.getD i []).getD 8 0) = ofInt .f32 (((c + 8 : Nat) : Int) : Int) := colJ h 8 (by decide)
theorem col_9 (h : M.getD i [] = mrow c) : Int.toNat ((M.getD i []).getD 9 0) = ofInt .f32 (((c + 9 : Nat) : Int) : Int) := colJ h 9 (by decide)
theorem col_10 (h : M.getD i [] = mrow c) : Int.toNat ((M.getD i []).getD 10 0) = ofInt .f32 (((c + 10 : Nat) : Int) : Int) := colJ h 10 (by decide)
theorem col_11 (h : M.getD i [] = mrow c) : Int.toNat ((M.getD i []).getD 11 0) = ofInt .f32 (((c + 11 : Nat) : Int) : Int) := colJ h 11 (by decide)
theorem col_12 (h : M.getD i [] = mrow c) : Int.toNat ((M.getD i []).getD 12 0) = ofInt .f32 (((c + 12 : Nat) : Int) : Int) := colJ h 12 (by decide)
theorem col_13 (h : M.getD i [] = mrow c) : Int.toNat ((M.getD i []).getD 13 0) = ofInt .f32 (((c + 13 : Nat) : Int) : Int) := colJ h 13 (by decide)
theorem col_14 (h : M.getD i [] = mrow c) : Int.toNat ((M.getD i []).getD 14 0) = ofInt .f32 (((c + 14 : Nat) : Int) : Int) := colJ h 14 (by decide)
theorem col_15 (h : M.getD i [] = mrow c) : Int.toNat ((M.getD i []).getD 15 0) = ofInt .f32 (((c + 15 : Nat) : Int) : Int) := colJ h 15 (by decide)
theorem col_16 (h : M.getD i [] = mrow c) : Int.toNat ((M.getD i []).getD 16 0) = ofInt .f32 (((c + 16 : Nat) : Int) : Int) := colJ h 16 (by decide)
theorem col_17 (h : M.getD i [] = mrow c) : Int.toNat ((M.getD i []).getD 17 0) = ofInt .f32 (((c + 17 : Nat) : Int) : Int) := colJ h 17 (by decide)
end Go.Proofs.Ytbmagccjcccnaaa
