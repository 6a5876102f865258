/- Float32: sums of what is not below nought; whole numbers as floats; marks. -/
import Derived.Test.YtmknfenjnladeaaA25
namespace Go.Ab

theorem near_le (m : Nat) (i : Int) : FloatKind.f32.format.nearest false m i ≤ 2139095040 := by
  have hi : FloatKind.f32.format.infRung = 2139095040 := by decide +kernel
  unfold Ieee.Format.nearest
  split
  · exact Nat.zero_le _
  · dsimp only
    unfold Ieee.Format.word
    simp only [Bool.false_eq_true,if_false]
    rw [← hi]
    exact Nat.min_le_right _ _
theorem read_pos {a : Nat} (h : a ≤ 2139095040) : (∃ m i,FloatKind.f32.format.read a = .number false m i) ∨ FloatKind.f32.format.read a = .infinity false := by
  have hi : FloatKind.f32.format.infRung = 2139095040 := by decide +kernel
  have hs : FloatKind.f32.format.signWeight = 2147483648 := by decide +kernel
  have e1 : (a / 2147483648 % 2 == 1) = false := by rw [Nat.div_eq_of_lt (by omega)]; rfl
  unfold Ieee.Format.read
  rw [hi,hs,e1,Nat.mod_eq_of_lt (by omega)]
  simp only
  split
  · exact .inl ⟨_,_,rfl⟩
  · split
    · exact .inl ⟨_,_,rfl⟩
    · split
      · exact .inr rfl
      · omega
theorem sum_num (m n : Nat) (i j : Int) : ∃ t b,Ieee.Datum.sum (.number false m i) (.number false n j) = some (.number false t b) := by
  have hp : ∀ q : Int,(if (Ieee.signed false m (i - q).toNat + Ieee.signed false n (j - q).toNat) = 0 then (false && false) else decide ((Ieee.signed false m (i - q).toNat + Ieee.signed false n (j - q).toNat) < 0)) = false := by
    intro q
    have h1 : 0 ≤ Ieee.signed false m (i - q).toNat := by unfold Ieee.signed; rw [if_neg Bool.false_ne_true]; exact Int.natCast_nonneg _
    have h2 : 0 ≤ Ieee.signed false n (j - q).toNat := by unfold Ieee.signed; rw [if_neg Bool.false_ne_true]; exact Int.natCast_nonneg _
    split
    · rfl
    · rw [decide_eq_false_iff_not]; omega
  simp only [Ieee.Datum.sum,hp]
  exact ⟨_,_,rfl⟩
theorem write_num (m : Nat) (i : Int) : FloatKind.f32.format.write (.number false m i) ≤ 2139095040 := by
  unfold Ieee.Format.write
  exact near_le m i
theorem write_inf : FloatKind.f32.format.write (.infinity false) ≤ 2139095040 := by decide +kernel
theorem fadd_of {a b : Nat} {x y z : Ieee.Datum} (ha : FloatKind.f32.format.read a = x) (hb : FloatKind.f32.format.read b = y) (hz : x.sum y = some z) : fadd .f32 a b = FloatKind.f32.format.write z := by
  unfold fadd Ieee.Format.add
  rw [ha,hb,hz]; rfl
theorem fadd_pos {a b : Nat} (ha : a ≤ 2139095040) (hb : b ≤ 2139095040) : fadd .f32 a b ≤ 2139095040 := by
  rcases read_pos ha with ⟨m,i,e⟩ | e
  · rcases read_pos hb with ⟨n,j,e'⟩ | e'
    · obtain ⟨t,q,h⟩ := sum_num m n i j
      exact Nat.le_trans (Nat.le_of_eq (fadd_of e e' h)) (write_num t q)
    · exact Nat.le_trans (Nat.le_of_eq (fadd_of e e' (z := .infinity false) rfl)) write_inf
  · rcases read_pos hb with ⟨n,j,e'⟩ | e'
    · exact Nat.le_trans (Nat.le_of_eq (fadd_of e e' (z := .infinity false) rfl)) write_inf
    · exact Nat.le_trans (Nat.le_of_eq (fadd_of e e' (z := .infinity false) rfl)) write_inf

end Go.Ab
