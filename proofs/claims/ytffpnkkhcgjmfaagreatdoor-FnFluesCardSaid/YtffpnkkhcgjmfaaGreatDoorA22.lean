/- Float32 numbers: finite ones, amounts; rows of floats that came in. -/
import Derived.Test.YtffpnkkhcgjmfaaGreatDoorA20
import Derived.Laws.BitsAllLaws
namespace Go.Ab

theorem has32 {a : Nat} (h : FloatKind.f32.has a) : a < 4294967296 := h
theorem fadd_lt (a b : Nat) : fadd .f32 a b < 4294967296 := by
  unfold fadd
  cases h : FloatKind.f32.format.add a b with
  | none => decide
  | some r => exact Ieee.Format.add_lt _ h
theorem fsub_lt (a b : Nat) : fsub .f32 a b < 4294967296 := by
  unfold fsub
  cases h : FloatKind.f32.format.sub a b with
  | none => decide
  | some r => exact Ieee.Format.sub_lt _ h
theorem fmul_lt (a b : Nat) : fmul .f32 a b < 4294967296 := by
  unfold fmul
  cases h : FloatKind.f32.format.mul a b with
  | none => decide
  | some r => exact Ieee.Format.mul_lt _ h
theorem fdiv_lt (a b : Nat) : fdiv .f32 a b < 4294967296 := by
  unfold fdiv
  cases h : FloatKind.f32.format.div a b with
  | none => decide
  | some r => exact Ieee.Format.div_lt _ h
theorem fneg_lt (a : Nat) (h : a < 4294967296) : fneg .f32 a < 4294967296 := by
  unfold fneg Op.negFloat
  exact Nat.xor_lt_two_pow (n := 32) h (by decide)
theorem widen_lt (a : Nat) : widen a < 18446744073709551616 := by
  unfold widen
  split
  · decide
  · exact Ieee.Format.write_lt Ieee.double _

theorem abs_word (x : Nat) (h : x < 18446744073709551616) : Int.toNat (bits .andNot .u64 (x : Int) 9223372036854775808) = x % 9223372036854775808 := by
  rw [show (9223372036854775808 : Int) = ((9223372036854775808 : Nat) : Int) from rfl, u64_andNot_nat x _ h (by decide)]
  simp only [Int.toNat_natCast]
  exact Nat.and_two_pow_sub_one_eq_mod x 63

/-- a float32 whose difference with itself is nought is finite -/
theorem finite_sub (d : Nat) : feq .f32 (fsub .f32 d d) 0 = decide (d % 2147483648 < 2139095040) := by
  cases hn : isN .f32 d with
  | true =>
    have : fsub .f32 d d = qnan .f32 := by
      have hn' := hn
      unfold isN at hn'
      unfold fsub Ieee.Format.sub
      revert hn'
      cases FloatKind.f32.format.read d with
      | nan s f => intro _; rfl
      | number s m i => intro h; cases h
      | infinity s => intro h; cases h
    rw [this, show feq .f32 (qnan .f32) 0 = false from by decide]
    rw [isN32, decide_eq_true_eq] at hn
    symm; rw [decide_eq_false_iff_not]; omega
  | false =>
    rw [isN32, decide_eq_false_iff_not] at hn
    rcases Nat.lt_or_eq_of_le (Nat.not_lt.1 hn) with h1 | h1
    · have hz : fsub .f32 d d = 0 := by
        obtain ⟨m, i, ed, _⟩ := read_fin FloatKind.f32.format d (by
          rw [show FloatKind.f32.format.signWeight = 2147483648 from by decide, show FloatKind.f32.format.infRung = 2139095040 from by decide]; exact h1)
        unfold fsub Ieee.Format.sub
        rw [ed]
        generalize (d / FloatKind.f32.format.signWeight % 2 == 1) = s
        simp only [Ieee.Datum.opposite, Ieee.Datum.sum, Option.map, Option.getD, Int.min_self, Int.sub_self]
        have : Ieee.signed s m (Int.toNat 0) + Ieee.signed (!s) m (Int.toNat 0) = 0 := by
          cases s <;> simp [Ieee.signed] <;> omega
        rw [this]
        simp only [if_true, Int.natAbs_zero]
        cases s <;> rfl
      rw [hz, show feq .f32 0 0 = true from by decide, decide_eq_true h1]
    · have : fsub .f32 d d = qnan .f32 := by
        unfold fsub Ieee.Format.sub
        rw [read_inf .f32 d (by rw [show FloatKind.f32.format.signWeight = 2147483648 from by decide]; exact h1)]
        generalize (d / FloatKind.f32.format.signWeight % 2 == 1) = s
        cases s <;> rfl
      rw [this, show feq .f32 (qnan .f32) 0 = false from by decide]
      symm; rw [decide_eq_false_iff_not]; omega

theorem abs_top (d : Nat) : fgt .f64 (cond (!isN .f64 (widen d)) (Int.toNat (bits .andNot .u64 ((widen d : Nat) : Int) 9223372036854775808)) 9221120237041090560) 9218868437227405311 = decide (d % 2147483648 = 2139095040) := by
  have h64 : FloatKind.f64.format.signWeight = 9223372036854775808 := by decide
  have i64 : FloatKind.f64.format.infRung = 9218868437227405312 := by decide
  have m64 : isN .f64 9218868437227405311 = false := by decide
  have k64 : key FloatKind.f64.format 9218868437227405311 = 9218868437227405311 := by decide
  rw [isN_widen]
  cases hn : isN .f32 d with
  | true =>
    rw [isN32, decide_eq_true_eq] at hn
    rw [show (cond (!true) (Int.toNat (bits .andNot .u64 ((widen d : Nat) : Int) 9223372036854775808)) 9221120237041090560 : Nat) = 9221120237041090560 from rfl, show fgt .f64 9221120237041090560 9218868437227405311 = false from by decide]
    symm; rw [decide_eq_false_iff_not]; omega
  | false =>
    rw [isN32, decide_eq_false_iff_not] at hn
    simp only [Bool.not_false, cond_true]
    rw [abs_word _ (widen_lt d)]
    have key_small : ∀ r : Nat, r ≤ 9218868437227405312 → isN .f64 r = false ∧ key FloatKind.f64.format r = (r : Int) := by
      intro r hr
      refine ⟨by rw [isN64, decide_eq_false_iff_not, Nat.mod_eq_of_lt (by omega)]; omega, ?_⟩
      unfold key
      rw [h64, Nat.div_eq_of_lt (by omega), if_neg (by decide), Nat.mod_eq_of_lt (by omega)]
    rcases Nat.lt_or_eq_of_le (Nat.not_lt.1 hn) with h1 | h1
    · obtain ⟨s, r, e, hr⟩ := widen_fin d h1
      rw [show Ieee.double.infRung = 9218868437227405312 from i64] at hr
      have er : widen d % 9223372036854775808 = r := by
        rw [e]
        have := (word_rung Ieee.double s r (by rw [show Ieee.double.signWeight = 9223372036854775808 from h64]; omega)).1
        rw [show Ieee.double.signWeight = 9223372036854775808 from h64] at this
        exact this
      rw [er, fgt_key .f64 _ _ (key_small r (by omega)).1 m64, k64, (key_small r (by omega)).2]
      rw [decide_eq_decide]; omega
    · have ew := widen_inf d h1
      have er : widen d % 9223372036854775808 = 9218868437227405312 := by
        rw [ew]
        have := (word_rung Ieee.double (d / 2147483648 % 2 == 1) Ieee.double.infRung (by decide)).1
        rw [show Ieee.double.signWeight = 9223372036854775808 from h64, show Ieee.double.infRung = 9218868437227405312 from i64] at this
        rw [show Ieee.double.infRung = 9218868437227405312 from i64]
        exact this
      rw [er, show fgt .f64 9218868437227405312 9218868437227405311 = true from by decide, decide_eq_true h1]

/-! ### rows of floats that came in -/
theorem cons_of {α : Type} {l : List α} {n : Nat} (h : l.length = n + 1) : ∃ a l', l = a :: l' ∧ l'.length = n := by
  match l, h with
  | a :: l', h => exact ⟨a, l', rfl, by simpa using h⟩
theorem nil_of {α : Type} {l : List α} (h : l.length = 0) : l = [] := List.length_eq_zero_iff.1 h
theorem open_floats {P : Program} {w : World} {r : Reach} {base : Nat} {t u : TypeId} {k : FloatKind} {n : Nat} {v : Value} (ht : tAgg P t = some true) (hc : P.cellsOf t = n) (hs : P.cellTypes P.depth t = some (List.replicate n u)) (hu : P.underlying u = some (.float k)) (h : Value.okWide P w r base t v) :
    ∃ l : List Nat, l.length = n ∧ v = .agg (l.map (Value.float k)).toArray ∧ ∀ x ∈ l, k.has x := by
  unfold tAgg at ht
  unfold Value.okWide at h
  have h' : ∃ cs, v = .agg cs ∧ cs.size = P.cellsOf t ∧ Row.okWide P w r base t cs := by
    split at ht
    · rename_i e; rw [e] at h; exact h
    · rename_i e; rw [e] at h; exact h
    · cases ht
    · cases ht
  obtain ⟨cs, rfl, hn, ts, hts, _, hcs⟩ := h'
  rw [hs] at hts; cases hts
  rw [hc] at hn
  obtain ⟨l⟩ := cs
  have key : ∀ (l : List Value) , (∀ v ∈ l, ∃ b, v = Value.float k b ∧ k.has b) → ∃ m : List Nat, m.length = l.length ∧ l = m.map (Value.float k) ∧ ∀ x ∈ m, k.has x := by
    intro l
    induction l with
    | nil => exact fun _ => ⟨[], rfl, rfl, fun x hx => by cases hx⟩
    | cons v l ih =>
      intro hv
      obtain ⟨b, rfl, hb⟩ := hv v (by simp)
      obtain ⟨m, e1, e2, e3⟩ := ih (fun x hx => hv x (by simp [hx]))
      exact ⟨b :: m, by simp [e1], by simp [← e2], fun x hx => by
        rcases List.mem_cons.1 hx with rfl | hx
        · exact hb
        · exact e3 x hx⟩
  obtain ⟨m, e1, e2, e3⟩ := key l (by
    intro v hv
    obtain ⟨i, hi, e⟩ := List.mem_iff_getElem.1 hv
    obtain ⟨q, hq, ho⟩ := hcs i v (by simp [hi, e])
    have : q = u := by
      have := List.mem_of_getElem? hq
      exact (List.mem_replicate.1 this).2
    subst this
    exact cell_float hu ho)
  subst e2
  simp at hn
  exact ⟨m, hn, rfl, e3⟩
theorem crel_floats {ι : Nat → Info} {D : Nat → Prop} (k : FloatKind) : ∀ l : List Nat, L2 (CRel ι D) (l.map (Value.float k)) (l.map (Value.float k))
  | [] => trivial
  | b :: l => ⟨⟨b, rfl, rfl⟩, crel_floats k l⟩
theorem vrel_floats {ι : Nat → Info} {D : Nat → Prop} (k : FloatKind) (l : List Nat) : VRel ι D (.agg (l.map (Value.float k)).toArray) (.agg (l.map (Value.float k)).toArray) :=
  ⟨_, rfl, crel_floats k l⟩
end Go.Ab
