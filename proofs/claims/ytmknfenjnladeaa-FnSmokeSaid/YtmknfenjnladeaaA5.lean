/- Floats up to the bits of a NaN: the operations go by the class. -/
import Derived.Test.YtmknfenjnladeaaA4
import Derived.Laws.Cover2
import Derived.Laws.FloatArith
namespace Go.Ab

theorem read_of_isN {k : FloatKind} {a : Nat} (h : isN k a = true) : ∃ s f,k.format.read a = .nan s f := by
  unfold isN at h
  cases hr : k.format.read a <;> simp [hr,Ieee.Datum.isNaN] at h
  exact ⟨_,_,rfl⟩

theorem sum_nan_right (d : Ieee.Datum) (s : Bool) (f : Nat) : d.sum (.nan s f) = none := by cases d <;> rfl
theorem product_nan_right (d : Ieee.Datum) (s : Bool) (f : Nat) : d.product (.nan s f) = none := by cases d <;> rfl
theorem quotient_nan_right (n : Nat) (d : Ieee.Datum) (s : Bool) (f : Nat) : Ieee.Datum.quotient n d (.nan s f) = none := by cases d <;> rfl
theorem order_nan_right (d : Ieee.Datum) (s : Bool) (f : Nat) : d.order (.nan s f) = none := by cases d <;> rfl

section
variable {k : FloatKind} {a b : Nat}
theorem add_nan (h : isN k a = true ∨ isN k b = true) : k.format.add a b = none := by
  rcases h with h | h <;> obtain ⟨s,f,e⟩ := read_of_isN h
  · simp [Ieee.Format.add,e,Ieee.Datum.sum]
  · simp [Ieee.Format.add,e,sum_nan_right]
theorem sub_nan (h : isN k a = true ∨ isN k b = true) : k.format.sub a b = none := by
  rcases h with h | h <;> obtain ⟨s,f,e⟩ := read_of_isN h
  · simp [Ieee.Format.sub,e,Ieee.Datum.sum]
  · simp [Ieee.Format.sub,e,Ieee.Datum.opposite,sum_nan_right]
theorem mul_nan (h : isN k a = true ∨ isN k b = true) : k.format.mul a b = none := by
  rcases h with h | h <;> obtain ⟨s,f,e⟩ := read_of_isN h
  · simp [Ieee.Format.mul,e,Ieee.Datum.product]
  · simp [Ieee.Format.mul,e,product_nan_right]
theorem div_nan (h : isN k a = true ∨ isN k b = true) : k.format.div a b = none := by
  rcases h with h | h <;> obtain ⟨s,f,e⟩ := read_of_isN h
  · simp [Ieee.Format.div,e,Ieee.Datum.quotient]
  · simp [Ieee.Format.div,e,quotient_nan_right]
theorem order_nan (h : isN k a = true ∨ isN k b = true) : k.format.order a b = none := by
  rcases h with h | h <;> obtain ⟨s,f,e⟩ := read_of_isN h
  · simp [Ieee.Format.order,e,Ieee.Datum.order]
  · simp [Ieee.Format.order,e,order_nan_right]
end

theorem class2 {k : FloatKind} {a a' b b' : Nat} {α : Type} (f : Nat → Nat → Option α) (hn : ∀ x y,isN k x = true ∨ isN k y = true → f x y = none)
    (ha : canon k a' = canon k a) (hb : canon k b' = canon k b) : f a' b' = f a b := by
  by_cases h : isN k a = true ∨ isN k b = true
  · rw [hn a b h,hn a' b' (by rw [isN_of_canon ha,isN_of_canon hb]; exact h)]
  · have h1 : isN k a = false := by cases e : isN k a <;> simp_all
    have h2 : isN k b = false := by cases e : isN k b <;> simp_all
    rw [eq_of_canon ha.symm h1,eq_of_canon hb.symm h2]

theorem read_nan {f : Ieee.Format} {x : Nat} (h1 : f.infRung < x % f.signWeight) (h2 : f.binade ≤ f.infRung) : (f.read x).isNaN = true := by
  unfold Ieee.Format.read
  simp only
  rw [if_neg (by omega),if_neg (by omega),if_neg (by omega)]
  rfl

theorem isN_f32 (x : Nat) (h : 2139095040 < x % 2147483648) : isN .f32 x = true := by
  refine read_nan ?_ (by decide +kernel)
  have e1 : FloatKind.f32.format.infRung = 2139095040 := by decide +kernel
  have e2 : FloatKind.f32.format.signWeight = 2147483648 := by decide +kernel
  rw [e1,e2]; exact h
theorem isN_f64 (x : Nat) (h : 9218868437227405312 < x % 9223372036854775808) : isN .f64 x = true := by
  refine read_nan ?_ (by decide +kernel)
  have e1 : FloatKind.f64.format.infRung = 9218868437227405312 := by decide +kernel
  have e2 : FloatKind.f64.format.signWeight = 9223372036854775808 := by decide +kernel
  rw [e1,e2]; exact h

theorem nan32 (u v : Nat) (hu : u < 2) (hv : v < 8388607) : 2139095040 < (u * 2147483648 + 2139095040 + 1 + v) % 2147483648 := by omega
theorem nan64 (u v : Nat) (hu : u < 2) (hv : v < 4503599627370495) : 9218868437227405312 < (u * 9223372036854775808 + 9218868437227405312 + 1 + v) % 9223372036854775808 := by omega
theorem nanBits_isN (k : FloatKind) (x y t : Nat) : isN k ((Question.nanBits k x y).cut t) = true := by
  cases k
  · exact isN_f32 _ (nan32 (t % 2) (t / 2 % 8388607) (Nat.mod_lt _ (by decide)) (Nat.mod_lt _ (by decide)))
  · exact isN_f64 _ (nan64 (t % 2) (t / 2 % 4503599627370495) (Nat.mod_lt _ (by decide)) (Nat.mod_lt _ (by decide)))
theorem nanConv_isN (k : FloatKind) (x t : Nat) : isN k ((Question.nanConv k x).cut t) = true := by
  cases k
  · exact isN_f32 _ (nan32 (t % 2) (t / 2 % 8388607) (Nat.mod_lt _ (by decide)) (Nat.mod_lt _ (by decide)))
  · exact isN_f64 _ (nan64 (t % 2) (t / 2 % 4503599627370495) (Nat.mod_lt _ (by decide)) (Nat.mod_lt _ (by decide)))

theorem canon_of_isN {k : FloatKind} {x : Nat} (h : isN k x = true) : canon k x = qnan k := by simp [canon,h]

theorem run_choose_nan {P : Program} (q : Question) (hq : q.forced = false) (w : World) : ∃ t,(choose q).run P w = .ok (q.cut t) w.drew :=
  ⟨w.tape w.drawn q,by rw [run_choose,if_neg (by rw [hq]; exact Bool.false_ne_true)]; rfl⟩

theorem arith_run {P : Program} {op : BinOp} {k : FloatKind} {a b a' b' : Nat} (f : Nat → Nat → Option Nat) (hn : ∀ x y,isN k x = true ∨ isN k y = true → f x y = none)
    (hop : ∀ x y,Op.floatArith op k x y = (match f x y with | some r => pure (.float k r) | none => (do pure (.float k (← choose (.nanBits k x y))) : Sem Value)))
    (ha : canon k a' = canon k a) (hb : canon k b' = canon k b) (w : World) :
    ∃ r' w',(Op.floatArith op k a' b').run P w = .ok (.float k r') w' ∧ canon k r' = canon k ((f a b).getD (qnan k)) ∧ (w' = w ∨ w' = w.drew) := by
  have hf := class2 f hn ha hb
  rw [hop]
  cases h : f a b with
  | some r => rw [hf,h]; exact ⟨r,w,rfl,rfl,.inl rfl⟩
  | none =>
    rw [hf,h]
    obtain ⟨t,ht⟩ := run_choose_nan (P := P) (.nanBits k a' b') rfl w
    refine ⟨_,w.drew,by simp only [Sem.run_bind,ht,Result.andThen_ok]; rfl,?_,.inr rfl⟩
    rw [canon_of_isN (nanBits_isN _ _ _ _)]
    simp [canon_qnan]

theorem order_class {k : FloatKind} {a a' b b' : Nat} (ha : canon k a' = canon k a) (hb : canon k b' = canon k b) : k.format.order a' b' = k.format.order a b :=
  class2 (fun x y => k.format.order x y) (fun _ _ h => order_nan h) ha hb

theorem isNaN_read (f : Ieee.Format) (x : Nat) : (f.read x).isNaN = (!decide (x % f.signWeight < f.binade) && !decide (x % f.signWeight < f.infRung) && !decide (x % f.signWeight = f.infRung)) := by
  unfold Ieee.Format.read
  by_cases h1 : x % f.signWeight < f.binade
  · simp [h1,Ieee.Datum.isNaN]
  · by_cases h2 : x % f.signWeight < f.infRung
    · simp [h1,h2,Ieee.Datum.isNaN]
    · by_cases h3 : x % f.signWeight = f.infRung
      · simp only [if_neg h1,if_neg h2,if_pos h3]; simp [h3,Ieee.Datum.isNaN]
      · simp only [if_neg h1,if_neg h2,if_neg h3]; simp [h1,h2,h3,Ieee.Datum.isNaN]

theorem isNaN_read_congr (f : Ieee.Format) {x y : Nat} (h : x % f.signWeight = y % f.signWeight) : (f.read x).isNaN = (f.read y).isNaN := by
  rw [isNaN_read,isNaN_read,h]

theorem isN_neg (k : FloatKind) (b : Nat) : isN k (fneg k b) = isN k b := by
  have key : ∀ e : Nat,(b ^^^ 2 ^ e) % 2 ^ e = b % 2 ^ e := fun e => by
    rw [Nat.xor_mod_two_pow]; simp
  unfold isN fneg Op.negFloat
  exact isNaN_read_congr _ (key _)

theorem neg_class {k : FloatKind} {b b' : Nat} (h : canon k b' = canon k b) : canon k (fneg k b') = canon k (fneg k b) := by
  by_cases hn : isN k b = true
  · rw [canon_of_isN (by rw [isN_neg,isN_of_canon h]; exact hn),canon_of_isN (by rw [isN_neg]; exact hn)]
  · have h1 : isN k b = false := by cases e : isN k b <;> simp_all
    rw [eq_of_canon h.symm h1]

theorem decode_isN {k : FloatKind} {b : Nat} (h : isN k b = true) : ∃ s f,k.decode b = .nan s f := read_of_isN h
theorem isN_of_nan {k : FloatKind} {b : Nat} {s : Bool} {f : Nat} (h : k.decode b = .nan s f) : isN k b = true := by
  unfold isN; rw [show k.format.read b = .nan s f from h]; rfl

theorem single_number {b : Nat} {s : Bool} {m : Nat} {e : Int} (h : FloatKind.f32.decode b = .number s m e) : m < 16777216 ∧ -149 ≤ e ∧ e ≤ 104 := by
  have e1 : FloatKind.f32.format.infRung = 2139095040 := by decide +kernel
  have e2 : FloatKind.f32.format.signWeight = 2147483648 := by decide +kernel
  have e3 : FloatKind.f32.format.binade = 8388608 := by decide +kernel
  have e4 : FloatKind.f32.format.leastPlace = -149 := by decide +kernel
  unfold FloatKind.decode Ieee.Format.read at h
  simp only [e1,e2,e3,e4] at h
  split at h
  · cases h; omega
  · split at h
    · cases h
      refine ⟨by omega,by omega,?_⟩
      have : b % 2147483648 / 8388608 < 255 := by omega
      omega
    · split at h <;> cases h

theorem cut_zero (w : Ieee.Toward) (hw : w = .even) (neg : Bool) (n : Nat) : w.cut neg n 0 = n := by
  subst hw
  unfold Ieee.Toward.cut
  simp [Nat.mod_one]

theorem nearest_double {s : Bool} {m : Nat} {e : Int} (hm : m < 16777216) (h1 : -149 ≤ e) (h2 : e ≤ 104) : (FloatKind.f64.decode (FloatKind.f64.encode (.number s m e))).isInfinity = false := by
  have e1 : FloatKind.f64.format.infRung = 9218868437227405312 := by decide +kernel
  have e2 : FloatKind.f64.format.signWeight = 9223372036854775808 := by decide +kernel
  have e3 : FloatKind.f64.format.binade = 4503599627370496 := by decide +kernel
  have e4 : FloatKind.f64.format.leastPlace = -1074 := by decide +kernel
  have e5 : FloatKind.f64.format.fractionBits = 52 := rfl
  have key : ∀ r : Nat,r < 9218868437227405312 → (FloatKind.f64.decode (FloatKind.f64.format.word s r)).isInfinity = false := by
    intro r hr
    have hw : FloatKind.f64.format.word s r % 9223372036854775808 = r := by
      unfold Ieee.Format.word
      rw [e2]
      split <;> omega
    unfold FloatKind.decode Ieee.Format.read
    simp only [e2,hw,e1]
    split
    · rfl
    · rfl
  show (FloatKind.f64.decode (FloatKind.f64.format.nearest s m e)).isInfinity = false
  unfold Ieee.Format.nearest
  split
  · exact key 0 (by decide)
  · rename_i hm0
    simp only [e1,e3,e4,e5]
    have hlog : m.log2 ≤ 23 := by
      have := (Nat.log2_lt hm0).2 (show m < 2 ^ 24 by exact hm)
      omega
    have hlt : m < 2 ^ (m.log2 + 1) := Nat.lt_log2_self
    obtain ⟨last,hl⟩ : ∃ last : Int,max (e + (m.log2 : Int) - ((52 : Nat) : Int)) (-1074) = last := ⟨_,rfl⟩
    rw [hl]
    have b1 : e + m.log2 - 52 ≤ last := by omega
    have b2 : last ≤ e := by omega
    have b3 : last ≤ 75 := by omega
    have b4 : -1074 ≤ last := by omega
    have z : (last - e).toNat = 0 := by omega
    rw [z,cut_zero _ rfl]
    have hk : m <<< (e - last).toNat < 2 ^ 53 := by
      rw [Nat.shiftLeft_eq]
      have q1 : m * 2 ^ (e - last).toNat < 2 ^ (m.log2 + 1) * 2 ^ (e - last).toNat := Nat.mul_lt_mul_of_pos_right hlt (Nat.two_pow_pos _)
      rw [← Nat.pow_add] at q1
      have q2 : 2 ^ (m.log2 + 1 + (e - last).toNat) ≤ 2 ^ 53 := Nat.pow_le_pow_right (by decide) (by omega)
      exact Nat.lt_of_lt_of_le q1 q2
    have p53 : (2 : Nat) ^ 53 = 9007199254740992 := by decide +kernel
    rw [p53] at hk
    have hr : (last - -1074).toNat ≤ 1149 := by omega
    generalize (last - -1074).toNat = r at hr ⊢
    generalize m <<< (e - last).toNat = q at hk ⊢
    clear hl b1 b2 b3 b4 z hlt hlog hm h1 h2 hm0
    refine key _ ?_
    have h3 : r * 4503599627370496 ≤ 1149 * 4503599627370496 := Nat.mul_le_mul_right _ hr
    omega

theorem widen_run {P : Program} {b b' : Nat} (h : canon .f32 b' = canon .f32 b) (w : World) :
    ∃ r' w',(Conv.floatToFloat .f32 b' .f64).run P w = .ok (.float .f64 r') w' ∧ canon .f64 r' = canon .f64 (widen b) ∧ (w' = w ∨ w' = w.drew) := by
  by_cases hn : isN .f32 b = true
  · obtain ⟨s,f,e⟩ := decode_isN hn
    obtain ⟨s',f',e'⟩ := decode_isN (k := .f32) (b := b') (by rw [isN_of_canon h]; exact hn)
    obtain ⟨t,ht⟩ := run_choose_nan (P := P) (.nanConv .f64 b') rfl w
    refine ⟨_,w.drew,by simp only [Conv.floatToFloat,e',Sem.run_bind,ht,Result.andThen_ok]; rfl,?_,.inr rfl⟩
    rw [canon_of_isN (nanConv_isN _ _ _)]
    simp [widen,e,canon_qnan]
  · have h1 : isN .f32 b = false := by cases e : isN .f32 b <;> simp_all
    have eb := eq_of_canon h.symm h1
    subst eb
    unfold widen Conv.floatToFloat
    cases hd : FloatKind.f32.decode b with
    | nan s f => rw [isN_of_nan hd] at h1; cases h1
    | infinity s => exact ⟨_,w,rfl,rfl,.inl rfl⟩
    | number s m e =>
      obtain ⟨c1,c2,c3⟩ := single_number hd
      have ok := nearest_double (s := s) c1 c2 c3
      exact ⟨FloatKind.f64.encode (.number s m e),w,by simp [ok],rfl,.inl rfl⟩

theorem narrow_run {P : Program} {b b' : Nat} (h : canon .f64 b' = canon .f64 b) (ok : narrowOk b = true) (w : World) :
    ∃ r' w',(Conv.floatToFloat .f64 b' .f32).run P w = .ok (.float .f32 r') w' ∧ canon .f32 r' = canon .f32 (narrow b) ∧ (w' = w ∨ w' = w.drew) := by
  by_cases hn : isN .f64 b = true
  · obtain ⟨s,f,e⟩ := decode_isN hn
    obtain ⟨s',f',e'⟩ := decode_isN (k := .f64) (b := b') (by rw [isN_of_canon h]; exact hn)
    obtain ⟨t,ht⟩ := run_choose_nan (P := P) (.nanConv .f32 b') rfl w
    refine ⟨_,w.drew,by simp only [Conv.floatToFloat,e',Sem.run_bind,ht,Result.andThen_ok]; rfl,?_,.inr rfl⟩
    rw [canon_of_isN (nanConv_isN _ _ _)]
    simp [narrow,e,canon_qnan]
  · have h1 : isN .f64 b = false := by cases e : isN .f64 b <;> simp_all
    have eb := eq_of_canon h.symm h1
    subst eb
    unfold narrowOk at ok
    unfold narrow at ok ⊢
    unfold Conv.floatToFloat
    cases hd : FloatKind.f64.decode b with
    | nan s f => rw [isN_of_nan hd] at h1; cases h1
    | infinity s => exact ⟨_,w,rfl,rfl,.inl rfl⟩
    | number s m e =>
      simp [hd] at ok
      exact ⟨FloatKind.f32.encode (.number s m e),w,by simp [ok],rfl,.inl rfl⟩

end Go.Ab
