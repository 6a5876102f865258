/- The plain law of DropSpent: marks. -/
import Derived.Test.YtbmagccjcccnaaaPd1
namespace Go.Proofs.Ytbmagccjcccnaaa
open Go.Ab
set_option maxHeartbeats 4000000

noncomputable def mrow (c : Nat) : List Int := [((ofInt .f32 ((c : Nat) : Int) : Nat) : Int), ((ofInt .f32 ((c + 1 : Nat) : Int) : Nat) : Int), ((ofInt .f32 ((c + 2 : Nat) : Int) : Nat) : Int), ((ofInt .f32 ((c + 3 : Nat) : Int) : Nat) : Int), ((ofInt .f32 ((c + 4 : Nat) : Int) : Nat) : Int), ((ofInt .f32 ((c + 5 : Nat) : Int) : Nat) : Int), ((ofInt .f32 ((c + 6 : Nat) : Int) : Nat) : Int), ((ofInt .f32 ((c + 7 : Nat) : Int) : Nat) : Int), ((ofInt .f32 ((c + 8 : Nat) : Int) : Nat) : Int), ((ofInt .f32 ((c + 9 : Nat) : Int) : Nat) : Int), ((ofInt .f32 ((c + 10 : Nat) : Int) : Nat) : Int), ((ofInt .f32 ((c + 11 : Nat) : Int) : Nat) : Int), ((ofInt .f32 ((c + 12 : Nat) : Int) : Nat) : Int), ((ofInt .f32 ((c + 13 : Nat) : Int) : Nat) : Int), ((ofInt .f32 ((c + 14 : Nat) : Int) : Nat) : Int), ((ofInt .f32 ((c + 15 : Nat) : Int) : Nat) : Int), ((ofInt .f32 ((c + 16 : Nat) : Int) : Nat) : Int), ((ofInt .f32 ((c + 17 : Nat) : Int) : Nat) : Int)]
theorem wr (c j : Nat) (h : c + j < 9223372036854775807) : IntKind.i64.wrap (((c + j : Nat) : Int) + 1) = ((c + (j + 1) : Nat) : Int) := wrap_succ h
variable {L : List (List Int)} {i c : Nat}

theorem m_b (hi : i < L.length) (hc : c < 1000000000000) : r68l1b (c : Int) (i : Int) L = (0, ((c + 1 : Nat) : Int), L.modify i fun r => (spl 18 r 5 [((ofInt .f32 ((c : Nat) : Int) : Nat) : Int)])) := by
  unfold r68l1b
  rw [Int.toNat_natCast, dle0, blt_t hi, wrap_succ (show c < 9223372036854775807 by omega)]
  rfl
theorem m_c (hi : i < L.length) (hc : c < 999999999999) : r68l1c (c : Int) (i : Int) L = (0, ((c + 2 : Nat) : Int), L.modify i fun r => (spl 18 (spl 18 r 4 [((ofInt .f32 ((c : Nat) : Int) : Nat) : Int)]) 5 [((ofInt .f32 ((c + 1 : Nat) : Int) : Nat) : Int)])) := by
  unfold r68l1c
  rw [Int.toNat_natCast, dle0, blt_t hi, wrap_succ (show c < 9223372036854775807 by omega)]
  rw [m_b (L := L.modify i _) (c := c + 1) (by rw [List.length_modify]; exact hi) (by omega), modify_modify]
  simp only [Nat.add_assoc]; rfl
theorem m_d (hi : i < L.length) (hc : c < 999999999998) : r68l1d (c : Int) (i : Int) L = (0, ((c + 3 : Nat) : Int), L.modify i fun r => (spl 18 (spl 18 (spl 18 r 3 [((ofInt .f32 ((c : Nat) : Int) : Nat) : Int)]) 4 [((ofInt .f32 ((c + 1 : Nat) : Int) : Nat) : Int)]) 5 [((ofInt .f32 ((c + 2 : Nat) : Int) : Nat) : Int)])) := by
  unfold r68l1d
  rw [Int.toNat_natCast, dle0, blt_t hi, wrap_succ (show c < 9223372036854775807 by omega)]
  rw [m_c (L := L.modify i _) (c := c + 1) (by rw [List.length_modify]; exact hi) (by omega), modify_modify]
  simp only [Nat.add_assoc]; rfl
theorem m_e (hi : i < L.length) (hc : c < 999999999997) : r68l1e (c : Int) (i : Int) L = (0, ((c + 4 : Nat) : Int), L.modify i fun r => (spl 18 (spl 18 (spl 18 (spl 18 r 2 [((ofInt .f32 ((c : Nat) : Int) : Nat) : Int)]) 3 [((ofInt .f32 ((c + 1 : Nat) : Int) : Nat) : Int)]) 4 [((ofInt .f32 ((c + 2 : Nat) : Int) : Nat) : Int)]) 5 [((ofInt .f32 ((c + 3 : Nat) : Int) : Nat) : Int)])) := by
  unfold r68l1e
  rw [Int.toNat_natCast, dle0, blt_t hi, wrap_succ (show c < 9223372036854775807 by omega)]
  rw [m_d (L := L.modify i _) (c := c + 1) (by rw [List.length_modify]; exact hi) (by omega), modify_modify]
  simp only [Nat.add_assoc]; rfl
theorem m_f (hi : i < L.length) (hc : c < 999999999996) : r68l1f (c : Int) (i : Int) L = (0, ((c + 5 : Nat) : Int), L.modify i fun r => (spl 18 (spl 18 (spl 18 (spl 18 (spl 18 r 1 [((ofInt .f32 ((c : Nat) : Int) : Nat) : Int)]) 2 [((ofInt .f32 ((c + 1 : Nat) : Int) : Nat) : Int)]) 3 [((ofInt .f32 ((c + 2 : Nat) : Int) : Nat) : Int)]) 4 [((ofInt .f32 ((c + 3 : Nat) : Int) : Nat) : Int)]) 5 [((ofInt .f32 ((c + 4 : Nat) : Int) : Nat) : Int)])) := by
  unfold r68l1f
  rw [Int.toNat_natCast, dle0, blt_t hi, wrap_succ (show c < 9223372036854775807 by omega)]
  rw [m_e (L := L.modify i _) (c := c + 1) (by rw [List.length_modify]; exact hi) (by omega), modify_modify]
  simp only [Nat.add_assoc]; rfl
theorem m_g (hi : i < L.length) (hc : c < 999999999995) : r68l1g (c : Int) (i : Int) L = (0, ((c + 6 : Nat) : Int), L.modify i fun r => (spl 18 (spl 18 (spl 18 (spl 18 (spl 18 (spl 18 r 0 [((ofInt .f32 ((c : Nat) : Int) : Nat) : Int)]) 1 [((ofInt .f32 ((c + 1 : Nat) : Int) : Nat) : Int)]) 2 [((ofInt .f32 ((c + 2 : Nat) : Int) : Nat) : Int)]) 3 [((ofInt .f32 ((c + 3 : Nat) : Int) : Nat) : Int)]) 4 [((ofInt .f32 ((c + 4 : Nat) : Int) : Nat) : Int)]) 5 [((ofInt .f32 ((c + 5 : Nat) : Int) : Nat) : Int)])) := by
  unfold r68l1g
  rw [Int.toNat_natCast, dle0, blt_t hi, wrap_succ (show c < 9223372036854775807 by omega)]
  rw [m_f (L := L.modify i _) (c := c + 1) (by rw [List.length_modify]; exact hi) (by omega), modify_modify]
  simp only [Nat.add_assoc]; rfl
end Go.Proofs.Ytbmagccjcccnaaa
