/- Float32 numbers: finite ones, amounts; rows of floats that came in. -/
import Derived.Test.YtmknfenjnladeaaA21
import Derived.Laws.BitsAllLaws
namespace Go.Ab

theorem fadd_lt (a b : Nat) : fadd .f32 a b < 4294967296 := by
  unfold fadd
  cases h : FloatKind.f32.format.add a b with
  | none => decide
  | some r => exact Ieee.Format.add_lt _ h
theorem fsub_lt (a b : Nat) : fsub .f32 a b < 4294967296 := by
  unfold fsub
  cases h : FloatKind.f32.format.sub a b with
  | none => decide
  | some r => exact Ieee.Format.sub_lt _ h
theorem fmul_lt (a b : Nat) : fmul .f32 a b < 4294967296 := by
  unfold fmul
  cases h : FloatKind.f32.format.mul a b with
  | none => decide
  | some r => exact Ieee.Format.mul_lt _ h
theorem fdiv_lt (a b : Nat) : fdiv .f32 a b < 4294967296 := by
  unfold fdiv
  cases h : FloatKind.f32.format.div a b with
  | none => decide
  | some r => exact Ieee.Format.div_lt _ h
theorem fneg_lt (a : Nat) (h : a < 4294967296) : fneg .f32 a < 4294967296 := by
  unfold fneg Op.negFloat
  exact Nat.xor_lt_two_pow (n := 32) h (by decide)
theorem widen_lt (a : Nat) : widen a < 18446744073709551616 := by
  unfold widen
  split
  · decide
  · exact Ieee.Format.write_lt Ieee.double _

theorem abs_word (x : Nat) (h : x < 18446744073709551616) : Int.toNat (bits .andNot .u64 (x : Int) 9223372036854775808) = x % 9223372036854775808 := by
  rw [show (9223372036854775808 : Int) = ((9223372036854775808 : Nat) : Int) from rfl,u64_andNot_nat x _ h (by decide)]
  simp only [Int.toNat_natCast]
  exact Nat.and_two_pow_sub_one_eq_mod x 63

theorem finite_sub (d : Nat) : feq .f32 (fsub .f32 d d) 0 = decide (d % 2147483648 < 2139095040) := by
  cases hn : isN .f32 d with
  | true =>
    have : fsub .f32 d d = qnan .f32 := by
      have hn' := hn
      unfold isN at hn'
      unfold fsub Ieee.Format.sub
      revert hn'
      cases FloatKind.f32.format.read d with
      | nan s f => intro _; rfl
      | number s m i => intro h; cases h
      | infinity s => intro h; cases h
    rw [this,show feq .f32 (qnan .f32) 0 = false from by decide]
    rw [isN32,decide_eq_true_eq] at hn
    symm; rw [decide_eq_false_iff_not]; omega
  | false =>
    rw [isN32,decide_eq_false_iff_not] at hn
    rcases Nat.lt_or_eq_of_le (Nat.not_lt.1 hn) with h1 | h1
    · have hz : fsub .f32 d d = 0 := by
        obtain ⟨m,i,ed,_⟩ := read_fin FloatKind.f32.format d (by
          rw [show FloatKind.f32.format.signWeight = 2147483648 from by decide,show FloatKind.f32.format.infRung = 2139095040 from by decide]; exact h1)
        unfold fsub Ieee.Format.sub
        rw [ed]
        generalize (d / FloatKind.f32.format.signWeight % 2 == 1) = s
        simp only [Ieee.Datum.opposite,Ieee.Datum.sum,Option.map,Option.getD,Int.min_self,Int.sub_self]
        have : Ieee.signed s m (Int.toNat 0) + Ieee.signed (!s) m (Int.toNat 0) = 0 := by
          cases s <;> simp [Ieee.signed] <;> omega
        rw [this]
        simp only [if_true,Int.natAbs_zero]
        cases s <;> rfl
      rw [hz,show feq .f32 0 0 = true from by decide,decide_eq_true h1]
    · have : fsub .f32 d d = qnan .f32 := by
        unfold fsub Ieee.Format.sub
        rw [read_inf .f32 d (by rw [show FloatKind.f32.format.signWeight = 2147483648 from by decide]; exact h1)]
        generalize (d / FloatKind.f32.format.signWeight % 2 == 1) = s
        cases s <;> rfl
      rw [this,show feq .f32 (qnan .f32) 0 = false from by decide]
      symm; rw [decide_eq_false_iff_not]; omega

theorem abs_top (d : Nat) : fgt .f64 (cond (!isN .f64 (widen d)) (Int.toNat (bits .andNot .u64 ((widen d : Nat) : Int) 9223372036854775808)) 9221120237041090560) 9218868437227405311 = decide (d % 2147483648 = 2139095040) := by
  have h64 : FloatKind.f64.format.signWeight = 9223372036854775808 := by decide
  have i64 : FloatKind.f64.format.infRung = 9218868437227405312 := by decide
  have m64 : isN .f64 9218868437227405311 = false := by decide
  have k64 : key FloatKind.f64.format 9218868437227405311 = 9218868437227405311 := by decide
  rw [isN_widen]
  cases hn : isN .f32 d with
  | true =>
    rw [isN32,decide_eq_true_eq] at hn
    rw [show (cond (!true) (Int.toNat (bits .andNot .u64 ((widen d : Nat) : Int) 9223372036854775808)) 9221120237041090560 : Nat) = 9221120237041090560 from rfl,show fgt .f64 9221120237041090560 9218868437227405311 = false from by decide]
    symm; rw [decide_eq_false_iff_not]; omega
  | false =>
    rw [isN32,decide_eq_false_iff_not] at hn
    simp only [Bool.not_false,cond_true]
    rw [abs_word _ (widen_lt d)]
    have key_small : ∀ r : Nat,r ≤ 9218868437227405312 → isN .f64 r = false ∧ key FloatKind.f64.format r = (r : Int) := by
      intro r hr
      refine ⟨by rw [isN64,decide_eq_false_iff_not,Nat.mod_eq_of_lt (by omega)]; omega,?_⟩
      unfold key
      rw [h64,Nat.div_eq_of_lt (by omega),if_neg (by decide),Nat.mod_eq_of_lt (by omega)]
    rcases Nat.lt_or_eq_of_le (Nat.not_lt.1 hn) with h1 | h1
    · obtain ⟨s,r,e,hr⟩ := widen_fin d h1
      rw [show Ieee.double.infRung = 9218868437227405312 from i64] at hr
      have er : widen d % 9223372036854775808 = r := by
        rw [e]
        have := (word_rung Ieee.double s r (by rw [show Ieee.double.signWeight = 9223372036854775808 from h64]; omega)).1
        rw [show Ieee.double.signWeight = 9223372036854775808 from h64] at this
        exact this
      rw [er,fgt_key .f64 _ _ (key_small r (by omega)).1 m64,k64,(key_small r (by omega)).2]
      rw [decide_eq_decide]; omega
    · have ew := widen_inf d h1
      have er : widen d % 9223372036854775808 = 9218868437227405312 := by
        rw [ew]
        have := (word_rung Ieee.double (d / 2147483648 % 2 == 1) Ieee.double.infRung (by decide)).1
        rw [show Ieee.double.signWeight = 9223372036854775808 from h64,show Ieee.double.infRung = 9218868437227405312 from i64] at this
        rw [show Ieee.double.infRung = 9218868437227405312 from i64]
        exact this
      rw [er,show fgt .f64 9218868437227405312 9218868437227405311 = true from by decide,decide_eq_true h1]

end Go.Ab
