/- Float32: numbers that differ at most in the sign of a nought. -/
import Derived.Test.YtmknfenjnladeaaA32
namespace Go.Ab
open Ieee

def Zq (a b : Nat) : Prop := a = b ∨ (a % 2147483648 = 0 ∧ b % 2147483648 = 0)
theorem Zq.rfl' (a : Nat) : Zq a a := .inl rfl
theorem Zq.trans {a b c : Nat} (h1 : Zq a b) (h2 : Zq b c) : Zq a c := by
  rcases h1 with rfl | ⟨h1,h1'⟩
  · exact h2
  · rcases h2 with rfl | ⟨_,h2'⟩
    · exact .inr ⟨h1,h1'⟩
    · exact .inr ⟨h1,h2'⟩
theorem read_z {a : Nat} (h : a % 2147483648 = 0) : ∃ s,F32.read a = .number s 0 (-149) := by
  refine ⟨a / 2147483648 % 2 == 1,?_⟩
  unfold Format.read
  simp only
  rw [F_sw,F_lp,h,if_pos (by decide)]
theorem word_z (s : Bool) : F32.word s 0 % 2147483648 = 0 := word_mg s 0 (by decide)
theorem near_z (s : Bool) (p : Int) : F32.nearest s 0 p % 2147483648 = 0 := by
  unfold Format.nearest
  rw [if_pos rfl]; exact word_z s
theorem sg0 (t : Bool) (k : Nat) : signed t 0 k = 0 := by
  unfold signed
  rw [Nat.shiftLeft_eq,Nat.zero_mul]
  cases t <;> rfl
theorem sum_z {x : Datum} (hx : ∀ s m i,x = .number s m i → -149 ≤ i) (t t' : Bool) (q : Nat) : Zq (((x.sum (.number t 0 (-149))).map F32.write).getD q) (((x.sum (.number t' 0 (-149))).map F32.write).getD q) := by
  cases x with
  | nan s f => exact .inl rfl
  | infinity s => exact .inl rfl
  | number s m i =>
    simp only [Datum.sum,sg0,Int.add_zero,Option.map_some,Option.getD_some]
    generalize signed s m (i - min i (-149)).toNat = T
    by_cases h : T = 0
    · refine .inr ⟨?_,?_⟩
      · rw [h]; exact near_z _ _
      · rw [h]; exact near_z _ _
    · rw [if_neg h,if_neg h]; exact .inl rfl
theorem sum_z' {x : Datum} (hx : ∀ s m i,x = .number s m i → -149 ≤ i) (t t' : Bool) (q : Nat) : Zq ((((Datum.number t 0 (-149)).sum x).map F32.write).getD q) ((((Datum.number t' 0 (-149)).sum x).map F32.write).getD q) := by
  cases x with
  | nan s f => exact .inl rfl
  | infinity s => exact .inl rfl
  | number s m i =>
    simp only [Datum.sum,sg0,Int.zero_add,Option.map_some,Option.getD_some]
    generalize signed s m (i - min (-149) i).toNat = T
    by_cases h : T = 0
    · refine .inr ⟨?_,?_⟩
      · rw [h]; exact near_z _ _
      · rw [h]; exact near_z _ _
    · rw [if_neg h,if_neg h]; exact .inl rfl
theorem read_pl (a : Nat) : ∀ s m i,F32.read a = .number s m i → -149 ≤ i := by
  intro s m i h
  unfold Format.read at h
  simp only at h
  rw [F_lp] at h
  split at h
  · cases h; omega
  · split at h
    · cases h; omega
    · split at h <;> cases h
theorem opp_pl {x : Datum} (hx : ∀ s m i,x = .number s m i → -149 ≤ i) : ∀ s m i,x.opposite = .number s m i → -149 ≤ i := by
  intro s m i h
  cases x with
  | nan s f => cases h
  | infinity s => cases h
  | number s' m' i' => cases h; exact hx _ _ _ rfl
theorem add_zq {a a' b b' : Nat} (h1 : Zq a a') (h2 : Zq b b') : Zq (fadd .f32 a b) (fadd .f32 a' b') := by
  have k1 : Zq (fadd .f32 a b) (fadd .f32 a' b) := by
    rcases h1 with rfl | ⟨z,z'⟩
    · exact .rfl' _
    · obtain ⟨s,e⟩ := read_z z
      obtain ⟨s',e'⟩ := read_z z'
      unfold fadd Format.add
      rw [e,e']
      exact sum_z' (read_pl b) s s' _
  have k2 : Zq (fadd .f32 a' b) (fadd .f32 a' b') := by
    rcases h2 with rfl | ⟨z,z'⟩
    · exact .rfl' _
    · obtain ⟨s,e⟩ := read_z z
      obtain ⟨s',e'⟩ := read_z z'
      unfold fadd Format.add
      rw [e,e']
      exact sum_z (read_pl a') s s' _
  exact k1.trans k2
theorem sub_zq {a a' b b' : Nat} (h1 : Zq a a') (h2 : Zq b b') : Zq (fsub .f32 a b) (fsub .f32 a' b') := by
  have k1 : Zq (fsub .f32 a b) (fsub .f32 a' b) := by
    rcases h1 with rfl | ⟨z,z'⟩
    · exact .rfl' _
    · obtain ⟨s,e⟩ := read_z z
      obtain ⟨s',e'⟩ := read_z z'
      unfold fsub Format.sub
      rw [e,e']
      exact sum_z' (opp_pl (read_pl b)) s s' _
  have k2 : Zq (fsub .f32 a' b) (fsub .f32 a' b') := by
    rcases h2 with rfl | ⟨z,z'⟩
    · exact .rfl' _
    · obtain ⟨s,e⟩ := read_z z
      obtain ⟨s',e'⟩ := read_z z'
      unfold fsub Format.sub
      rw [e,e']
      exact sum_z (read_pl a') (!s) (!s') _
  exact k1.trans k2
theorem mul_zq {a a' b b' : Nat} (h1 : Zq a a') (h2 : Zq b b') : Zq (fmul .f32 a b) (fmul .f32 a' b') := by
  have k1 : Zq (fmul .f32 a b) (fmul .f32 a' b) := by
    rcases h1 with rfl | ⟨z,z'⟩
    · exact .rfl' _
    · obtain ⟨s,e⟩ := read_z z
      obtain ⟨s',e'⟩ := read_z z'
      unfold fmul Format.mul
      rw [e,e']
      cases F32.read b with
      | nan s f => exact .inl rfl
      | infinity s => exact .inl rfl
      | number t n j =>
        simp only [Datum.product,Nat.zero_mul,Option.map_some,Option.getD_some]
        exact .inr ⟨near_z _ _,near_z _ _⟩
  have k2 : Zq (fmul .f32 a' b) (fmul .f32 a' b') := by
    rcases h2 with rfl | ⟨z,z'⟩
    · exact .rfl' _
    · obtain ⟨s,e⟩ := read_z z
      obtain ⟨s',e'⟩ := read_z z'
      unfold fmul Format.mul
      rw [e,e']
      cases F32.read a' with
      | nan s f => exact .inl rfl
      | infinity s => exact .inl rfl
      | number t n j =>
        simp only [Datum.product,Nat.mul_zero,Option.map_some,Option.getD_some]
        exact .inr ⟨near_z _ _,near_z _ _⟩
  exact k1.trans k2
theorem div_zq {a a' b : Nat} (h1 : Zq a a') : Zq (fdiv .f32 a b) (fdiv .f32 a' b) := by
  rcases h1 with rfl | ⟨z,z'⟩
  · exact .rfl' _
  · obtain ⟨s,e⟩ := read_z z
    obtain ⟨s',e'⟩ := read_z z'
    unfold fdiv Format.div
    rw [e,e']
    cases F32.read b with
    | nan s f => exact .inl rfl
    | infinity t =>
      simp only [Datum.quotient,Option.map_some,Option.getD_some]
      exact .inr ⟨near_z _ _,near_z _ _⟩
    | number t n j =>
      by_cases hn : n = 0
      · subst hn; exact .inl rfl
      · simp only [Datum.quotient,if_neg hn,Nat.shiftLeft_eq,Nat.zero_mul,Nat.zero_div,Nat.zero_mod,bne_self_eq_false,Bool.toNat_false,Nat.mul_zero,Nat.add_zero,Option.map_some,Option.getD_some]
        exact .inr ⟨near_z _ _,near_z _ _⟩
theorem order_zq {a a' : Nat} (h : Zq a a') (b : Nat) : F32.order a b = F32.order a' b ∧ F32.order b a = F32.order b a' := by
  rcases h with rfl | ⟨z,z'⟩
  · exact ⟨rfl,rfl⟩
  · obtain ⟨s,e⟩ := read_z z
    obtain ⟨s',e'⟩ := read_z z'
    unfold Format.order
    rw [e,e']
    cases F32.read b with
    | nan s f => exact ⟨rfl,rfl⟩
    | infinity t => exact ⟨rfl,rfl⟩
    | number t n j => simp only [Datum.order,sg0]; exact ⟨trivial,trivial⟩
theorem flt_zq {a a' b b' : Nat} (h1 : Zq a a') (h2 : Zq b b') : flt .f32 a b = flt .f32 a' b' := by
  unfold flt
  rw [(order_zq h1 b).1,(order_zq h2 a').2]
theorem fgt_zq {a a' b b' : Nat} (h1 : Zq a a') (h2 : Zq b b') : fgt .f32 a b = fgt .f32 a' b' := by
  unfold fgt
  rw [(order_zq h1 b).1,(order_zq h2 a').2]
theorem Zq.fi {a b : Nat} (h : Zq a b) : Fi a ↔ Fi b := by
  rcases h with rfl | ⟨z,z'⟩
  · exact Iff.rfl
  · unfold Fi; omega
theorem Zq.sv {a b : Nat} (h : Zq a b) : sv a = sv b := by
  rcases h with rfl | ⟨z,z'⟩
  · rfl
  · unfold Go.Ab.sv
    rw [z,z',show rval F32 0 = 0 from rval_zero F32]
    split <;> split <;> rfl
theorem neg_sub {a : Nat} (h : Fi a) (h2 : a < 4294967296) (h0 : a % 2147483648 ≠ 0) : fsub .f32 0 a = fneg .f32 a := by
  have f : Fr (fsub .f32 0 a) (sv 0 - sv a) 1 := by
    have e0 : sv 0 = 0 := by decide +kernel
    have hm : rval F32 (a % 2147483648) ≤ rval F32 2139095039 := rv_le (by unfold Fi at h; omega)
    have ha := sv_abs a
    have hF : FM = ((rval F32 2139095039 : Nat) : Int) := rfl
    exact sub_fr (by unfold Fi; decide) h (by omega) (by omega)
  have e0 : sv 0 = 0 := by decide +kernel
  rw [e0,Int.zero_sub] at f
  have hs : sv (fsub .f32 0 a) = -sv a := by
    unfold Fi at h
    by_cases hp : a < 2147483648
    · rw [sv_pos hp] at f ⊢
      have h1 := f.le' a (by omega) (by simp)
      have h2 := f.ge' a (by omega) (by simp)
      omega
    · rw [sv_neg (by omega) h2] at f ⊢
      have h1 := f.le (a - 2147483648) (by omega) (by simp)
      have h2 := f.ge (a - 2147483648) (by omega) (by simp)
      omega
  have hn := sv_fneg h2
  -- words of the same number,which is not nought
  have inj : ∀ x y : Nat,x < 4294967296 → y < 4294967296 → sv x = sv y → sv x ≠ 0 → x = y := fun x y hx hy e hz => by
    by_cases px : x < 2147483648
    · rw [sv_pos px] at e hz
      by_cases py : y < 2147483648
      · rw [sv_pos py] at e
        exact rval_inj F32 (by omega)
      · rw [sv_neg (by omega) hy] at e; omega
    · rw [sv_neg (by omega) hx] at e hz
      by_cases py : y < 2147483648
      · rw [sv_pos py] at e; omega
      · rw [sv_neg (by omega) hy] at e
        have := rval_inj F32 (show rval F32 (x - 2147483648) = rval F32 (y - 2147483648) by omega)
        omega
  refine inj _ _ f.lt (fneg_lt _ h2) (hs.trans hn.symm) ?_
  rw [hs]
  have e := sv_abs a
  have : rval F32 (a % 2147483648) ≠ 0 := fun g => h0 (rval_inj F32 (g.trans (rval_zero F32).symm))
  omega
end Go.Ab
