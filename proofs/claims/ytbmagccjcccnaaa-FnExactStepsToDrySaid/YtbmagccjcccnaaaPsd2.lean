/- The steps of a log: layer by layer. -/
import Derived.Test.YtbmagccjcccnaaaPsd1
namespace Go.Proofs.Ytbmagccjcccnaaa
open Go.Ab

theorem r110_eq (x0 x1 x2 x3 x4 x5 x6 x7 x8 x9 x10 x11 x12 x13 x14 x15 x16 x17 : Nat) : r110 x0 x1 x2 x3 x4 x5 x6 x7 x8 x9 x10 x11 x12 x13 x14 x15 x16 x17 = r108 x0 x12 := rfl
theorem r110b_eq (x0 x1 x2 x3 x4 x5 x6 x7 x8 x9 x10 x11 x12 x13 x14 x15 x16 x17 : Nat) : r110b x0 x1 x2 x3 x4 x5 x6 x7 x8 x9 x10 x11 x12 x13 x14 x15 x16 x17 = r108 x1 x13 := rfl
theorem r110c_eq (x0 x1 x2 x3 x4 x5 x6 x7 x8 x9 x10 x11 x12 x13 x14 x15 x16 x17 : Nat) : r110c x0 x1 x2 x3 x4 x5 x6 x7 x8 x9 x10 x11 x12 x13 x14 x15 x16 x17 = r108 x2 x14 := rfl
theorem r110d_eq (x0 x1 x2 x3 x4 x5 x6 x7 x8 x9 x10 x11 x12 x13 x14 x15 x16 x17 : Nat) : r110d x0 x1 x2 x3 x4 x5 x6 x7 x8 x9 x10 x11 x12 x13 x14 x15 x16 x17 = r108 x3 x15 := rfl
theorem r110e_eq (x0 x1 x2 x3 x4 x5 x6 x7 x8 x9 x10 x11 x12 x13 x14 x15 x16 x17 : Nat) : r110e x0 x1 x2 x3 x4 x5 x6 x7 x8 x9 x10 x11 x12 x13 x14 x15 x16 x17 = r108 x4 x16 := rfl
theorem r110f_eq (x0 x1 x2 x3 x4 x5 x6 x7 x8 x9 x10 x11 x12 x13 x14 x15 x16 x17 : Nat) : r110f x0 x1 x2 x3 x4 x5 x6 x7 x8 x9 x10 x11 x12 x13 x14 x15 x16 x17 = r108 x5 x17 := rfl
theorem sD5 (x0 x1 x2 x3 x4 x5 x6 x7 x8 x9 x10 x11 x12 x13 x14 x15 x16 x17 x18 x19 x20 x21 x22 x23 x24 x25 x26 x27 x28 x29 x30 x31 x32 x33 x34 x35 x36 x37 x38 x39 x40 x41 x42 x44 x45 x46 x47 x48 x50 x51 x52 x53 x54 x55 : Nat) : (r80l0b x0 x1 x2 x3 x4 x5 x6 x7 x8 x9 x10 x11 x12 x13 x14 x15 x16 x17 x18 x19 x20 x21 x22 x23 x24 x25 x26 x27 x28 x29 x30 x31 x32 x33 x34 x35 x36 x37 x38 x39 x40 x41 x42 x7 x44 x45 x46 x47 x48 x13 x50 x51 x52 x53 x54 x55).2 = (W1 x0 x7 x13, H1 x0 x7 x13 x19) := by
  unfold r80l0b
  simp only [r110f_eq]
  cases e : fgt .f32 x13 1120403456 with
  | false => rw [W1_f e, H1_f e]; rfl
  | true =>
    rw [W1_t e, H1_t e]
    rcases Bool.eq_false_or_eq_true (flt .f32 (hD x7 x13 x19 (dd x0 x7 x13)) 1120403456) with e2 | e2 <;> rw [e2] <;> rfl
theorem sD4 (x0 x1 x2 x3 x4 x5 x6 x7 x8 x9 x10 x11 x12 x13 x14 x15 x16 x17 x18 x19 x20 x21 x22 x23 x24 x25 x26 x27 x28 x29 x30 x31 x32 x33 x34 x35 x36 x37 x38 x39 x40 x41 x44 x45 x46 x47 x50 x51 x52 x53 x54 x55 : Nat) : (r80l0c x0 x1 x2 x3 x4 x5 x6 x7 x8 x9 x10 x11 x12 x13 x14 x15 x16 x17 x18 x19 x20 x21 x22 x23 x24 x25 x26 x27 x28 x29 x30 x31 x32 x33 x34 x35 x36 x37 x38 x39 x40 x41 x6 x7 x44 x45 x46 x47 x12 x13 x50 x51 x52 x53 x54 x55).2 = (W1 x0 x6 x12, W1 x0 x7 x13, H1 x0 x6 x12 x18, H1 x0 x7 x13 x19) := by
  unfold r80l0c
  simp only [sD5, r110e_eq]
  cases e : fgt .f32 x12 1120403456 with
  | false => rw [W1_f e, H1_f e]; rfl
  | true =>
    rw [W1_t e, H1_t e]
    rcases Bool.eq_false_or_eq_true (flt .f32 (hD x6 x12 x18 (dd x0 x6 x12)) 1120403456) with e2 | e2 <;> rw [e2] <;> rfl
theorem sD3 (x0 x1 x2 x3 x4 x5 x6 x7 x8 x9 x10 x11 x12 x13 x14 x15 x16 x17 x18 x19 x20 x21 x22 x23 x24 x25 x26 x27 x28 x29 x30 x31 x32 x33 x34 x35 x36 x37 x38 x39 x40 x44 x45 x46 x50 x51 x52 x53 x54 x55 : Nat) : (r80l0d x0 x1 x2 x3 x4 x5 x6 x7 x8 x9 x10 x11 x12 x13 x14 x15 x16 x17 x18 x19 x20 x21 x22 x23 x24 x25 x26 x27 x28 x29 x30 x31 x32 x33 x34 x35 x36 x37 x38 x39 x40 x5 x6 x7 x44 x45 x46 x11 x12 x13 x50 x51 x52 x53 x54 x55).2 = (W1 x0 x5 x11, W1 x0 x6 x12, W1 x0 x7 x13, H1 x0 x5 x11 x17, H1 x0 x6 x12 x18, H1 x0 x7 x13 x19) := by
  unfold r80l0d
  simp only [sD4, r110d_eq]
  cases e : fgt .f32 x11 1120403456 with
  | false => rw [W1_f e, H1_f e]; rfl
  | true =>
    rw [W1_t e, H1_t e]
    rcases Bool.eq_false_or_eq_true (flt .f32 (hD x5 x11 x17 (dd x0 x5 x11)) 1120403456) with e2 | e2 <;> rw [e2] <;> rfl
theorem sD2 (x0 x1 x2 x3 x4 x5 x6 x7 x8 x9 x10 x11 x12 x13 x14 x15 x16 x17 x18 x19 x20 x21 x22 x23 x24 x25 x26 x27 x28 x29 x30 x31 x32 x33 x34 x35 x36 x37 x38 x39 x44 x45 x50 x51 x52 x53 x54 x55 : Nat) : (r80l0e x0 x1 x2 x3 x4 x5 x6 x7 x8 x9 x10 x11 x12 x13 x14 x15 x16 x17 x18 x19 x20 x21 x22 x23 x24 x25 x26 x27 x28 x29 x30 x31 x32 x33 x34 x35 x36 x37 x38 x39 x4 x5 x6 x7 x44 x45 x10 x11 x12 x13 x50 x51 x52 x53 x54 x55).2 = (W1 x0 x4 x10, W1 x0 x5 x11, W1 x0 x6 x12, W1 x0 x7 x13, H1 x0 x4 x10 x16, H1 x0 x5 x11 x17, H1 x0 x6 x12 x18, H1 x0 x7 x13 x19) := by
  unfold r80l0e
  simp only [sD3, r110c_eq]
  cases e : fgt .f32 x10 1120403456 with
  | false => rw [W1_f e, H1_f e]; rfl
  | true =>
    rw [W1_t e, H1_t e]
    rcases Bool.eq_false_or_eq_true (flt .f32 (hD x4 x10 x16 (dd x0 x4 x10)) 1120403456) with e2 | e2 <;> rw [e2] <;> rfl
theorem sD1 (x0 x1 x2 x3 x4 x5 x6 x7 x8 x9 x10 x11 x12 x13 x14 x15 x16 x17 x18 x19 x20 x21 x22 x23 x24 x25 x26 x27 x28 x29 x30 x31 x32 x33 x34 x35 x36 x37 x38 x44 x50 x51 x52 x53 x54 x55 : Nat) : (r80l0f x0 x1 x2 x3 x4 x5 x6 x7 x8 x9 x10 x11 x12 x13 x14 x15 x16 x17 x18 x19 x20 x21 x22 x23 x24 x25 x26 x27 x28 x29 x30 x31 x32 x33 x34 x35 x36 x37 x38 x3 x4 x5 x6 x7 x44 x9 x10 x11 x12 x13 x50 x51 x52 x53 x54 x55).2 = (W1 x0 x3 x9, W1 x0 x4 x10, W1 x0 x5 x11, W1 x0 x6 x12, W1 x0 x7 x13, H1 x0 x3 x9 x15, H1 x0 x4 x10 x16, H1 x0 x5 x11 x17, H1 x0 x6 x12 x18, H1 x0 x7 x13 x19) := by
  unfold r80l0f
  simp only [sD2, r110b_eq]
  cases e : fgt .f32 x9 1120403456 with
  | false => rw [W1_f e, H1_f e]; rfl
  | true =>
    rw [W1_t e, H1_t e]
    rcases Bool.eq_false_or_eq_true (flt .f32 (hD x3 x9 x15 (dd x0 x3 x9)) 1120403456) with e2 | e2 <;> rw [e2] <;> rfl
theorem sD0 (x0 x1 x2 x3 x4 x5 x6 x7 x8 x9 x10 x11 x12 x13 x14 x15 x16 x17 x18 x19 x20 x21 x22 x23 x24 x25 x26 x27 x28 x29 x30 x31 x32 x33 x34 x35 x36 x37 x50 x51 x52 x53 x54 x55 : Nat) : (r80l0g x0 x1 x2 x3 x4 x5 x6 x7 x8 x9 x10 x11 x12 x13 x14 x15 x16 x17 x18 x19 x20 x21 x22 x23 x24 x25 x26 x27 x28 x29 x30 x31 x32 x33 x34 x35 x36 x37 x2 x3 x4 x5 x6 x7 x8 x9 x10 x11 x12 x13 x50 x51 x52 x53 x54 x55).2 = (W1 x0 x2 x8, W1 x0 x3 x9, W1 x0 x4 x10, W1 x0 x5 x11, W1 x0 x6 x12, W1 x0 x7 x13, H1 x0 x2 x8 x14, H1 x0 x3 x9 x15, H1 x0 x4 x10 x16, H1 x0 x5 x11 x17, H1 x0 x6 x12 x18, H1 x0 x7 x13 x19) := by
  unfold r80l0g
  simp only [sD1, r110_eq]
  cases e : fgt .f32 x8 1120403456 with
  | false => rw [W1_f e, H1_f e]; rfl
  | true =>
    rw [W1_t e, H1_t e]
    rcases Bool.eq_false_or_eq_true (flt .f32 (hD x2 x8 x14 (dd x0 x2 x8)) 1120403456) with e2 | e2 <;> rw [e2] <;> rfl
theorem iD5 {x0 x1 x2 x3 x4 x5 x6 x7 x8 x9 x10 x11 x12 x13 x14 x15 x16 x17 x18 x19 x20 x21 x22 x23 x24 x25 x26 x27 x28 x29 x30 x31 x32 x33 x34 x35 x36 x37 : Nat} (m5 : Mn x0 x7 x13) : r78l0b x0 x1 x2 x3 x4 x5 x6 x7 x8 x9 x10 x11 x12 x13 x14 x15 x16 x17 x18 x19 x20 x21 x22 x23 x24 x25 x26 x27 x28 x29 x30 x31 x32 x33 x34 x35 x36 x37 = ((aI x1 x0 x7 x13), W1 x0 x7 x13, H1 x0 x7 x13 x19) := by
  unfold r78l0b
  skip
  cases e : fgt .f32 x13 1120403456 with
  | false => rw [aI_f e, W1_f e, H1_f e]; rfl
  | true =>
    rw [aI_t e, W1_t e, H1_t e]
    have hm := m5 e
    cases e2 : flt .f32 x7 (dB x0 x13) with
    | true =>
      rw [e2] at hm
      rw [← hm]
      rcases Bool.eq_false_or_eq_true (flt .f32 (hD x7 x13 x19 x7) 1120403456) with e3 | e3 <;> simp only [cond_true, cond_false, e3, Bool.not_true]
    | false =>
      rw [e2] at hm
      rw [← hm]
      rcases Bool.eq_false_or_eq_true (flt .f32 (hD x7 x13 x19 (dB x0 x13)) 1120403456) with e3 | e3 <;> simp only [cond_true, cond_false, e3, Bool.not_true]
theorem iD4 {x0 x1 x2 x3 x4 x5 x6 x7 x8 x9 x10 x11 x12 x13 x14 x15 x16 x17 x18 x19 x20 x21 x22 x23 x24 x25 x26 x27 x28 x29 x30 x31 x32 x33 x34 x35 x36 x37 : Nat} (m4 : Mn x0 x6 x12) (m5 : Mn x0 x7 x13) : r78l0c x0 x1 x2 x3 x4 x5 x6 x7 x8 x9 x10 x11 x12 x13 x14 x15 x16 x17 x18 x19 x20 x21 x22 x23 x24 x25 x26 x27 x28 x29 x30 x31 x32 x33 x34 x35 x36 x37 = ((aI (aI x1 x0 x6 x12) x0 x7 x13), W1 x0 x6 x12, W1 x0 x7 x13, H1 x0 x6 x12 x18, H1 x0 x7 x13 x19) := by
  unfold r78l0c
  simp only [iD5 m5]
  cases e : fgt .f32 x12 1120403456 with
  | false => rw [aI_f e, W1_f e, H1_f e]; rfl
  | true =>
    rw [aI_t e, W1_t e, H1_t e]
    have hm := m4 e
    cases e2 : flt .f32 x6 (dB x0 x12) with
    | true =>
      rw [e2] at hm
      rw [← hm]
      rcases Bool.eq_false_or_eq_true (flt .f32 (hD x6 x12 x18 x6) 1120403456) with e3 | e3 <;> simp only [cond_true, cond_false, e3, Bool.not_true]
    | false =>
      rw [e2] at hm
      rw [← hm]
      rcases Bool.eq_false_or_eq_true (flt .f32 (hD x6 x12 x18 (dB x0 x12)) 1120403456) with e3 | e3 <;> simp only [cond_true, cond_false, e3, Bool.not_true]
theorem iD3 {x0 x1 x2 x3 x4 x5 x6 x7 x8 x9 x10 x11 x12 x13 x14 x15 x16 x17 x18 x19 x20 x21 x22 x23 x24 x25 x26 x27 x28 x29 x30 x31 x32 x33 x34 x35 x36 x37 : Nat} (m3 : Mn x0 x5 x11) (m4 : Mn x0 x6 x12) (m5 : Mn x0 x7 x13) : r78l0d x0 x1 x2 x3 x4 x5 x6 x7 x8 x9 x10 x11 x12 x13 x14 x15 x16 x17 x18 x19 x20 x21 x22 x23 x24 x25 x26 x27 x28 x29 x30 x31 x32 x33 x34 x35 x36 x37 = ((aI (aI (aI x1 x0 x5 x11) x0 x6 x12) x0 x7 x13), W1 x0 x5 x11, W1 x0 x6 x12, W1 x0 x7 x13, H1 x0 x5 x11 x17, H1 x0 x6 x12 x18, H1 x0 x7 x13 x19) := by
  unfold r78l0d
  simp only [iD4 m4 m5]
  cases e : fgt .f32 x11 1120403456 with
  | false => rw [aI_f e, W1_f e, H1_f e]; rfl
  | true =>
    rw [aI_t e, W1_t e, H1_t e]
    have hm := m3 e
    cases e2 : flt .f32 x5 (dB x0 x11) with
    | true =>
      rw [e2] at hm
      rw [← hm]
      rcases Bool.eq_false_or_eq_true (flt .f32 (hD x5 x11 x17 x5) 1120403456) with e3 | e3 <;> simp only [cond_true, cond_false, e3, Bool.not_true]
    | false =>
      rw [e2] at hm
      rw [← hm]
      rcases Bool.eq_false_or_eq_true (flt .f32 (hD x5 x11 x17 (dB x0 x11)) 1120403456) with e3 | e3 <;> simp only [cond_true, cond_false, e3, Bool.not_true]
theorem iD2 {x0 x1 x2 x3 x4 x5 x6 x7 x8 x9 x10 x11 x12 x13 x14 x15 x16 x17 x18 x19 x20 x21 x22 x23 x24 x25 x26 x27 x28 x29 x30 x31 x32 x33 x34 x35 x36 x37 : Nat} (m2 : Mn x0 x4 x10) (m3 : Mn x0 x5 x11) (m4 : Mn x0 x6 x12) (m5 : Mn x0 x7 x13) : r78l0e x0 x1 x2 x3 x4 x5 x6 x7 x8 x9 x10 x11 x12 x13 x14 x15 x16 x17 x18 x19 x20 x21 x22 x23 x24 x25 x26 x27 x28 x29 x30 x31 x32 x33 x34 x35 x36 x37 = ((aI (aI (aI (aI x1 x0 x4 x10) x0 x5 x11) x0 x6 x12) x0 x7 x13), W1 x0 x4 x10, W1 x0 x5 x11, W1 x0 x6 x12, W1 x0 x7 x13, H1 x0 x4 x10 x16, H1 x0 x5 x11 x17, H1 x0 x6 x12 x18, H1 x0 x7 x13 x19) := by
  unfold r78l0e
  simp only [iD3 m3 m4 m5]
  cases e : fgt .f32 x10 1120403456 with
  | false => rw [aI_f e, W1_f e, H1_f e]; rfl
  | true =>
    rw [aI_t e, W1_t e, H1_t e]
    have hm := m2 e
    cases e2 : flt .f32 x4 (dB x0 x10) with
    | true =>
      rw [e2] at hm
      rw [← hm]
      rcases Bool.eq_false_or_eq_true (flt .f32 (hD x4 x10 x16 x4) 1120403456) with e3 | e3 <;> simp only [cond_true, cond_false, e3, Bool.not_true]
    | false =>
      rw [e2] at hm
      rw [← hm]
      rcases Bool.eq_false_or_eq_true (flt .f32 (hD x4 x10 x16 (dB x0 x10)) 1120403456) with e3 | e3 <;> simp only [cond_true, cond_false, e3, Bool.not_true]
theorem iD1 {x0 x1 x2 x3 x4 x5 x6 x7 x8 x9 x10 x11 x12 x13 x14 x15 x16 x17 x18 x19 x20 x21 x22 x23 x24 x25 x26 x27 x28 x29 x30 x31 x32 x33 x34 x35 x36 x37 : Nat} (m1 : Mn x0 x3 x9) (m2 : Mn x0 x4 x10) (m3 : Mn x0 x5 x11) (m4 : Mn x0 x6 x12) (m5 : Mn x0 x7 x13) : r78l0f x0 x1 x2 x3 x4 x5 x6 x7 x8 x9 x10 x11 x12 x13 x14 x15 x16 x17 x18 x19 x20 x21 x22 x23 x24 x25 x26 x27 x28 x29 x30 x31 x32 x33 x34 x35 x36 x37 = ((aI (aI (aI (aI (aI x1 x0 x3 x9) x0 x4 x10) x0 x5 x11) x0 x6 x12) x0 x7 x13), W1 x0 x3 x9, W1 x0 x4 x10, W1 x0 x5 x11, W1 x0 x6 x12, W1 x0 x7 x13, H1 x0 x3 x9 x15, H1 x0 x4 x10 x16, H1 x0 x5 x11 x17, H1 x0 x6 x12 x18, H1 x0 x7 x13 x19) := by
  unfold r78l0f
  simp only [iD2 m2 m3 m4 m5]
  cases e : fgt .f32 x9 1120403456 with
  | false => rw [aI_f e, W1_f e, H1_f e]; rfl
  | true =>
    rw [aI_t e, W1_t e, H1_t e]
    have hm := m1 e
    cases e2 : flt .f32 x3 (dB x0 x9) with
    | true =>
      rw [e2] at hm
      rw [← hm]
      rcases Bool.eq_false_or_eq_true (flt .f32 (hD x3 x9 x15 x3) 1120403456) with e3 | e3 <;> simp only [cond_true, cond_false, e3, Bool.not_true]
    | false =>
      rw [e2] at hm
      rw [← hm]
      rcases Bool.eq_false_or_eq_true (flt .f32 (hD x3 x9 x15 (dB x0 x9)) 1120403456) with e3 | e3 <;> simp only [cond_true, cond_false, e3, Bool.not_true]
theorem iD0 {x0 x1 x2 x3 x4 x5 x6 x7 x8 x9 x10 x11 x12 x13 x14 x15 x16 x17 x18 x19 x20 x21 x22 x23 x24 x25 x26 x27 x28 x29 x30 x31 x32 x33 x34 x35 x36 x37 : Nat} (m0 : Mn x0 x2 x8) (m1 : Mn x0 x3 x9) (m2 : Mn x0 x4 x10) (m3 : Mn x0 x5 x11) (m4 : Mn x0 x6 x12) (m5 : Mn x0 x7 x13) : r78l0g x0 x1 x2 x3 x4 x5 x6 x7 x8 x9 x10 x11 x12 x13 x14 x15 x16 x17 x18 x19 x20 x21 x22 x23 x24 x25 x26 x27 x28 x29 x30 x31 x32 x33 x34 x35 x36 x37 = ((aI (aI (aI (aI (aI (aI x1 x0 x2 x8) x0 x3 x9) x0 x4 x10) x0 x5 x11) x0 x6 x12) x0 x7 x13), W1 x0 x2 x8, W1 x0 x3 x9, W1 x0 x4 x10, W1 x0 x5 x11, W1 x0 x6 x12, W1 x0 x7 x13, H1 x0 x2 x8 x14, H1 x0 x3 x9 x15, H1 x0 x4 x10 x16, H1 x0 x5 x11 x17, H1 x0 x6 x12 x18, H1 x0 x7 x13 x19) := by
  unfold r78l0g
  simp only [iD1 m1 m2 m3 m4 m5]
  cases e : fgt .f32 x8 1120403456 with
  | false => rw [aI_f e, W1_f e, H1_f e]; rfl
  | true =>
    rw [aI_t e, W1_t e, H1_t e]
    have hm := m0 e
    cases e2 : flt .f32 x2 (dB x0 x8) with
    | true =>
      rw [e2] at hm
      rw [← hm]
      rcases Bool.eq_false_or_eq_true (flt .f32 (hD x2 x8 x14 x2) 1120403456) with e3 | e3 <;> simp only [cond_true, cond_false, e3, Bool.not_true]
    | false =>
      rw [e2] at hm
      rw [← hm]
      rcases Bool.eq_false_or_eq_true (flt .f32 (hD x2 x8 x14 (dB x0 x8)) 1120403456) with e3 | e3 <;> simp only [cond_true, cond_false, e3, Bool.not_true]
theorem sB5 (x0 x1 x2 x3 x4 x5 x6 x7 x8 x9 x10 x11 x12 x13 x14 x15 x16 x17 x18 x19 x20 x21 x22 x23 x24 x25 x26 x27 x28 x29 x30 x31 x32 x33 x34 x35 x36 x37 x38 x39 x40 x41 x42 x43 x44 x45 x46 x47 x48 x49 x50 x52 x53 x54 x55 x56 : Nat) : (r83l0b x0 x1 x2 x3 x4 x5 x6 x7 x8 x9 x10 x11 x12 x13 x14 x15 x16 x17 x18 x19 x20 x21 x22 x23 x24 x25 x26 x27 x28 x29 x30 x31 x32 x33 x34 x35 x36 x37 x38 x39 x40 x41 x42 x43 x44 x45 x46 x47 x48 x49 x50 x15 x52 x53 x54 x55 x56 x21).2.2 = (H2 x0 x1 x9 x15 x21, F2 x0 x1 x9 x15 x21) := by
  unfold r83l0b
  simp only [r110f_eq, r109_top]
  cases e : (fgt .f32 x15 1132068864 || feq .f32 x15 1132068864) with
  | false => rw [H2_f e, F2_f e]; rfl
  | true =>
    cases e' : flt .f32 x9 1040187392 with
    | false => rw [H2_g e', F2_g e']; rfl
    | true => rw [H2_t e e', F2_t e e']; rfl
theorem sB4 (x0 x1 x2 x3 x4 x5 x6 x7 x8 x9 x10 x11 x12 x13 x14 x15 x16 x17 x18 x19 x20 x21 x22 x23 x24 x25 x26 x27 x28 x29 x30 x31 x32 x33 x34 x35 x36 x37 x38 x39 x40 x41 x42 x43 x44 x45 x46 x47 x48 x49 x52 x53 x54 x55 : Nat) : (r83l0c x0 x1 x2 x3 x4 x5 x6 x7 x8 x9 x10 x11 x12 x13 x14 x15 x16 x17 x18 x19 x20 x21 x22 x23 x24 x25 x26 x27 x28 x29 x30 x31 x32 x33 x34 x35 x36 x37 x38 x39 x40 x41 x42 x43 x44 x45 x46 x47 x48 x49 x14 x15 x52 x53 x54 x55 x20 x21).2.2 = (H2 x0 x1 x8 x14 x20, H2 x0 x1 x9 x15 x21, F2 x0 x1 x8 x14 x20, F2 x0 x1 x9 x15 x21) := by
  unfold r83l0c
  simp only [sB5, r110e_eq, r109_top]
  cases e : (fgt .f32 x14 1132068864 || feq .f32 x14 1132068864) with
  | false => rw [H2_f e, F2_f e]; rfl
  | true =>
    cases e' : flt .f32 x8 1040187392 with
    | false => rw [H2_g e', F2_g e']; rfl
    | true => rw [H2_t e e', F2_t e e']; rfl
theorem sB3 (x0 x1 x2 x3 x4 x5 x6 x7 x8 x9 x10 x11 x12 x13 x14 x15 x16 x17 x18 x19 x20 x21 x22 x23 x24 x25 x26 x27 x28 x29 x30 x31 x32 x33 x34 x35 x36 x37 x38 x39 x40 x41 x42 x43 x44 x45 x46 x47 x48 x52 x53 x54 : Nat) : (r83l0d x0 x1 x2 x3 x4 x5 x6 x7 x8 x9 x10 x11 x12 x13 x14 x15 x16 x17 x18 x19 x20 x21 x22 x23 x24 x25 x26 x27 x28 x29 x30 x31 x32 x33 x34 x35 x36 x37 x38 x39 x40 x41 x42 x43 x44 x45 x46 x47 x48 x13 x14 x15 x52 x53 x54 x19 x20 x21).2.2 = (H2 x0 x1 x7 x13 x19, H2 x0 x1 x8 x14 x20, H2 x0 x1 x9 x15 x21, F2 x0 x1 x7 x13 x19, F2 x0 x1 x8 x14 x20, F2 x0 x1 x9 x15 x21) := by
  unfold r83l0d
  simp only [sB4, r110d_eq, r109_top]
  cases e : (fgt .f32 x13 1132068864 || feq .f32 x13 1132068864) with
  | false => rw [H2_f e, F2_f e]; rfl
  | true =>
    cases e' : flt .f32 x7 1040187392 with
    | false => rw [H2_g e', F2_g e']; rfl
    | true => rw [H2_t e e', F2_t e e']; rfl
theorem sB2 (x0 x1 x2 x3 x4 x5 x6 x7 x8 x9 x10 x11 x12 x13 x14 x15 x16 x17 x18 x19 x20 x21 x22 x23 x24 x25 x26 x27 x28 x29 x30 x31 x32 x33 x34 x35 x36 x37 x38 x39 x40 x41 x42 x43 x44 x45 x46 x47 x52 x53 : Nat) : (r83l0e x0 x1 x2 x3 x4 x5 x6 x7 x8 x9 x10 x11 x12 x13 x14 x15 x16 x17 x18 x19 x20 x21 x22 x23 x24 x25 x26 x27 x28 x29 x30 x31 x32 x33 x34 x35 x36 x37 x38 x39 x40 x41 x42 x43 x44 x45 x46 x47 x12 x13 x14 x15 x52 x53 x18 x19 x20 x21).2.2 = (H2 x0 x1 x6 x12 x18, H2 x0 x1 x7 x13 x19, H2 x0 x1 x8 x14 x20, H2 x0 x1 x9 x15 x21, F2 x0 x1 x6 x12 x18, F2 x0 x1 x7 x13 x19, F2 x0 x1 x8 x14 x20, F2 x0 x1 x9 x15 x21) := by
  unfold r83l0e
  simp only [sB3, r110c_eq, r109_top]
  cases e : (fgt .f32 x12 1132068864 || feq .f32 x12 1132068864) with
  | false => rw [H2_f e, F2_f e]; rfl
  | true =>
    cases e' : flt .f32 x6 1040187392 with
    | false => rw [H2_g e', F2_g e']; rfl
    | true => rw [H2_t e e', F2_t e e']; rfl
theorem sB1 (x0 x1 x2 x3 x4 x5 x6 x7 x8 x9 x10 x11 x12 x13 x14 x15 x16 x17 x18 x19 x20 x21 x22 x23 x24 x25 x26 x27 x28 x29 x30 x31 x32 x33 x34 x35 x36 x37 x38 x39 x40 x41 x42 x43 x44 x45 x46 x52 : Nat) : (r83l0f x0 x1 x2 x3 x4 x5 x6 x7 x8 x9 x10 x11 x12 x13 x14 x15 x16 x17 x18 x19 x20 x21 x22 x23 x24 x25 x26 x27 x28 x29 x30 x31 x32 x33 x34 x35 x36 x37 x38 x39 x40 x41 x42 x43 x44 x45 x46 x11 x12 x13 x14 x15 x52 x17 x18 x19 x20 x21).2.2 = (H2 x0 x1 x5 x11 x17, H2 x0 x1 x6 x12 x18, H2 x0 x1 x7 x13 x19, H2 x0 x1 x8 x14 x20, H2 x0 x1 x9 x15 x21, F2 x0 x1 x5 x11 x17, F2 x0 x1 x6 x12 x18, F2 x0 x1 x7 x13 x19, F2 x0 x1 x8 x14 x20, F2 x0 x1 x9 x15 x21) := by
  unfold r83l0f
  simp only [sB2, r110b_eq, r109_top]
  cases e : (fgt .f32 x11 1132068864 || feq .f32 x11 1132068864) with
  | false => rw [H2_f e, F2_f e]; rfl
  | true =>
    cases e' : flt .f32 x5 1040187392 with
    | false => rw [H2_g e', F2_g e']; rfl
    | true => rw [H2_t e e', F2_t e e']; rfl
theorem sB0 (x0 x1 x2 x3 x4 x5 x6 x7 x8 x9 x10 x11 x12 x13 x14 x15 x16 x17 x18 x19 x20 x21 x22 x23 x24 x25 x26 x27 x28 x29 x30 x31 x32 x33 x34 x35 x36 x37 x38 x39 x40 x41 x42 x43 x44 x45 : Nat) : (r83l0g x0 x1 x2 x3 x4 x5 x6 x7 x8 x9 x10 x11 x12 x13 x14 x15 x16 x17 x18 x19 x20 x21 x22 x23 x24 x25 x26 x27 x28 x29 x30 x31 x32 x33 x34 x35 x36 x37 x38 x39 x40 x41 x42 x43 x44 x45 x10 x11 x12 x13 x14 x15 x16 x17 x18 x19 x20 x21).2.2 = (H2 x0 x1 x4 x10 x16, H2 x0 x1 x5 x11 x17, H2 x0 x1 x6 x12 x18, H2 x0 x1 x7 x13 x19, H2 x0 x1 x8 x14 x20, H2 x0 x1 x9 x15 x21, F2 x0 x1 x4 x10 x16, F2 x0 x1 x5 x11 x17, F2 x0 x1 x6 x12 x18, F2 x0 x1 x7 x13 x19, F2 x0 x1 x8 x14 x20, F2 x0 x1 x9 x15 x21) := by
  unfold r83l0g
  simp only [sB1, r110_eq, r109_top]
  cases e : (fgt .f32 x10 1132068864 || feq .f32 x10 1132068864) with
  | false => rw [H2_f e, F2_f e]; rfl
  | true =>
    cases e' : flt .f32 x4 1040187392 with
    | false => rw [H2_g e', F2_g e']; rfl
    | true => rw [H2_t e e', F2_t e e']; rfl
theorem iB5 {x0 x1 x2 x3 x4 x5 x6 x7 x8 x9 x10 x11 x12 x13 x14 x15 x16 x17 x18 x19 x20 x21 x22 x23 x24 x25 x26 x27 x28 x29 x30 x31 x32 x33 x34 x35 x36 x37 x38 x39 : Nat} (m5 : Mb x0 x1 x9 x15 x21) : r81l0b x0 x1 x2 x3 x4 x5 x6 x7 x8 x9 x10 x11 x12 x13 x14 x15 x16 x17 x18 x19 x20 x21 x22 x23 x24 x25 x26 x27 x28 x29 x30 x31 x32 x33 x34 x35 x36 x37 x38 x39 = ((qI x2 x0 x1 x9 x15 x21), (pI x3 x0 x1 x9 x15 x21), H2 x0 x1 x9 x15 x21, F2 x0 x1 x9 x15 x21) := by
  unfold r81l0b
  skip
  cases e : (fgt .f32 x15 1132068864 || feq .f32 x15 1132068864) with
  | false => rw [qI_f e, pI_f e, H2_f e, F2_f e]; rfl
  | true =>
    cases e' : flt .f32 x9 1040187392 with
    | false => rw [qI_g e', pI_g e', H2_g e', F2_g e']; rfl
    | true =>
      rw [qI_t e e', pI_t e e', H2_t e e', F2_t e e']
      have hm := m5 e e'
      cases e2 : flt .f32 x21 (bB x0 x1 x15) with
      | true =>
        rw [e2] at hm
        rw [← hm]
        rcases Bool.eq_false_or_eq_true (fgt .f32 (hB x9 x15 x21 x21) 1153138688) with e3 | e3 <;> simp only [cond_true, cond_false, e3, Bool.not_true]
      | false =>
        rw [e2] at hm
        rw [← hm]
        rcases Bool.eq_false_or_eq_true (fgt .f32 (hB x9 x15 x21 (bB x0 x1 x15)) 1153138688) with e3 | e3 <;> simp only [cond_true, cond_false, e3, Bool.not_true]
theorem iB4 {x0 x1 x2 x3 x4 x5 x6 x7 x8 x9 x10 x11 x12 x13 x14 x15 x16 x17 x18 x19 x20 x21 x22 x23 x24 x25 x26 x27 x28 x29 x30 x31 x32 x33 x34 x35 x36 x37 x38 x39 : Nat} (m4 : Mb x0 x1 x8 x14 x20) (m5 : Mb x0 x1 x9 x15 x21) : r81l0c x0 x1 x2 x3 x4 x5 x6 x7 x8 x9 x10 x11 x12 x13 x14 x15 x16 x17 x18 x19 x20 x21 x22 x23 x24 x25 x26 x27 x28 x29 x30 x31 x32 x33 x34 x35 x36 x37 x38 x39 = ((qI (qI x2 x0 x1 x8 x14 x20) x0 x1 x9 x15 x21), (pI (pI x3 x0 x1 x8 x14 x20) x0 x1 x9 x15 x21), H2 x0 x1 x8 x14 x20, H2 x0 x1 x9 x15 x21, F2 x0 x1 x8 x14 x20, F2 x0 x1 x9 x15 x21) := by
  unfold r81l0c
  simp only [iB5 m5]
  cases e : (fgt .f32 x14 1132068864 || feq .f32 x14 1132068864) with
  | false => rw [qI_f e, pI_f e, H2_f e, F2_f e]; rfl
  | true =>
    cases e' : flt .f32 x8 1040187392 with
    | false => rw [qI_g e', pI_g e', H2_g e', F2_g e']; rfl
    | true =>
      rw [qI_t e e', pI_t e e', H2_t e e', F2_t e e']
      have hm := m4 e e'
      cases e2 : flt .f32 x20 (bB x0 x1 x14) with
      | true =>
        rw [e2] at hm
        rw [← hm]
        rcases Bool.eq_false_or_eq_true (fgt .f32 (hB x8 x14 x20 x20) 1153138688) with e3 | e3 <;> simp only [cond_true, cond_false, e3, Bool.not_true]
      | false =>
        rw [e2] at hm
        rw [← hm]
        rcases Bool.eq_false_or_eq_true (fgt .f32 (hB x8 x14 x20 (bB x0 x1 x14)) 1153138688) with e3 | e3 <;> simp only [cond_true, cond_false, e3, Bool.not_true]
theorem iB3 {x0 x1 x2 x3 x4 x5 x6 x7 x8 x9 x10 x11 x12 x13 x14 x15 x16 x17 x18 x19 x20 x21 x22 x23 x24 x25 x26 x27 x28 x29 x30 x31 x32 x33 x34 x35 x36 x37 x38 x39 : Nat} (m3 : Mb x0 x1 x7 x13 x19) (m4 : Mb x0 x1 x8 x14 x20) (m5 : Mb x0 x1 x9 x15 x21) : r81l0d x0 x1 x2 x3 x4 x5 x6 x7 x8 x9 x10 x11 x12 x13 x14 x15 x16 x17 x18 x19 x20 x21 x22 x23 x24 x25 x26 x27 x28 x29 x30 x31 x32 x33 x34 x35 x36 x37 x38 x39 = ((qI (qI (qI x2 x0 x1 x7 x13 x19) x0 x1 x8 x14 x20) x0 x1 x9 x15 x21), (pI (pI (pI x3 x0 x1 x7 x13 x19) x0 x1 x8 x14 x20) x0 x1 x9 x15 x21), H2 x0 x1 x7 x13 x19, H2 x0 x1 x8 x14 x20, H2 x0 x1 x9 x15 x21, F2 x0 x1 x7 x13 x19, F2 x0 x1 x8 x14 x20, F2 x0 x1 x9 x15 x21) := by
  unfold r81l0d
  simp only [iB4 m4 m5]
  cases e : (fgt .f32 x13 1132068864 || feq .f32 x13 1132068864) with
  | false => rw [qI_f e, pI_f e, H2_f e, F2_f e]; rfl
  | true =>
    cases e' : flt .f32 x7 1040187392 with
    | false => rw [qI_g e', pI_g e', H2_g e', F2_g e']; rfl
    | true =>
      rw [qI_t e e', pI_t e e', H2_t e e', F2_t e e']
      have hm := m3 e e'
      cases e2 : flt .f32 x19 (bB x0 x1 x13) with
      | true =>
        rw [e2] at hm
        rw [← hm]
        rcases Bool.eq_false_or_eq_true (fgt .f32 (hB x7 x13 x19 x19) 1153138688) with e3 | e3 <;> simp only [cond_true, cond_false, e3, Bool.not_true]
      | false =>
        rw [e2] at hm
        rw [← hm]
        rcases Bool.eq_false_or_eq_true (fgt .f32 (hB x7 x13 x19 (bB x0 x1 x13)) 1153138688) with e3 | e3 <;> simp only [cond_true, cond_false, e3, Bool.not_true]
theorem iB2 {x0 x1 x2 x3 x4 x5 x6 x7 x8 x9 x10 x11 x12 x13 x14 x15 x16 x17 x18 x19 x20 x21 x22 x23 x24 x25 x26 x27 x28 x29 x30 x31 x32 x33 x34 x35 x36 x37 x38 x39 : Nat} (m2 : Mb x0 x1 x6 x12 x18) (m3 : Mb x0 x1 x7 x13 x19) (m4 : Mb x0 x1 x8 x14 x20) (m5 : Mb x0 x1 x9 x15 x21) : r81l0e x0 x1 x2 x3 x4 x5 x6 x7 x8 x9 x10 x11 x12 x13 x14 x15 x16 x17 x18 x19 x20 x21 x22 x23 x24 x25 x26 x27 x28 x29 x30 x31 x32 x33 x34 x35 x36 x37 x38 x39 = ((qI (qI (qI (qI x2 x0 x1 x6 x12 x18) x0 x1 x7 x13 x19) x0 x1 x8 x14 x20) x0 x1 x9 x15 x21), (pI (pI (pI (pI x3 x0 x1 x6 x12 x18) x0 x1 x7 x13 x19) x0 x1 x8 x14 x20) x0 x1 x9 x15 x21), H2 x0 x1 x6 x12 x18, H2 x0 x1 x7 x13 x19, H2 x0 x1 x8 x14 x20, H2 x0 x1 x9 x15 x21, F2 x0 x1 x6 x12 x18, F2 x0 x1 x7 x13 x19, F2 x0 x1 x8 x14 x20, F2 x0 x1 x9 x15 x21) := by
  unfold r81l0e
  simp only [iB3 m3 m4 m5]
  cases e : (fgt .f32 x12 1132068864 || feq .f32 x12 1132068864) with
  | false => rw [qI_f e, pI_f e, H2_f e, F2_f e]; rfl
  | true =>
    cases e' : flt .f32 x6 1040187392 with
    | false => rw [qI_g e', pI_g e', H2_g e', F2_g e']; rfl
    | true =>
      rw [qI_t e e', pI_t e e', H2_t e e', F2_t e e']
      have hm := m2 e e'
      cases e2 : flt .f32 x18 (bB x0 x1 x12) with
      | true =>
        rw [e2] at hm
        rw [← hm]
        rcases Bool.eq_false_or_eq_true (fgt .f32 (hB x6 x12 x18 x18) 1153138688) with e3 | e3 <;> simp only [cond_true, cond_false, e3, Bool.not_true]
      | false =>
        rw [e2] at hm
        rw [← hm]
        rcases Bool.eq_false_or_eq_true (fgt .f32 (hB x6 x12 x18 (bB x0 x1 x12)) 1153138688) with e3 | e3 <;> simp only [cond_true, cond_false, e3, Bool.not_true]
theorem iB1 {x0 x1 x2 x3 x4 x5 x6 x7 x8 x9 x10 x11 x12 x13 x14 x15 x16 x17 x18 x19 x20 x21 x22 x23 x24 x25 x26 x27 x28 x29 x30 x31 x32 x33 x34 x35 x36 x37 x38 x39 : Nat} (m1 : Mb x0 x1 x5 x11 x17) (m2 : Mb x0 x1 x6 x12 x18) (m3 : Mb x0 x1 x7 x13 x19) (m4 : Mb x0 x1 x8 x14 x20) (m5 : Mb x0 x1 x9 x15 x21) : r81l0f x0 x1 x2 x3 x4 x5 x6 x7 x8 x9 x10 x11 x12 x13 x14 x15 x16 x17 x18 x19 x20 x21 x22 x23 x24 x25 x26 x27 x28 x29 x30 x31 x32 x33 x34 x35 x36 x37 x38 x39 = ((qI (qI (qI (qI (qI x2 x0 x1 x5 x11 x17) x0 x1 x6 x12 x18) x0 x1 x7 x13 x19) x0 x1 x8 x14 x20) x0 x1 x9 x15 x21), (pI (pI (pI (pI (pI x3 x0 x1 x5 x11 x17) x0 x1 x6 x12 x18) x0 x1 x7 x13 x19) x0 x1 x8 x14 x20) x0 x1 x9 x15 x21), H2 x0 x1 x5 x11 x17, H2 x0 x1 x6 x12 x18, H2 x0 x1 x7 x13 x19, H2 x0 x1 x8 x14 x20, H2 x0 x1 x9 x15 x21, F2 x0 x1 x5 x11 x17, F2 x0 x1 x6 x12 x18, F2 x0 x1 x7 x13 x19, F2 x0 x1 x8 x14 x20, F2 x0 x1 x9 x15 x21) := by
  unfold r81l0f
  simp only [iB2 m2 m3 m4 m5]
  cases e : (fgt .f32 x11 1132068864 || feq .f32 x11 1132068864) with
  | false => rw [qI_f e, pI_f e, H2_f e, F2_f e]; rfl
  | true =>
    cases e' : flt .f32 x5 1040187392 with
    | false => rw [qI_g e', pI_g e', H2_g e', F2_g e']; rfl
    | true =>
      rw [qI_t e e', pI_t e e', H2_t e e', F2_t e e']
      have hm := m1 e e'
      cases e2 : flt .f32 x17 (bB x0 x1 x11) with
      | true =>
        rw [e2] at hm
        rw [← hm]
        rcases Bool.eq_false_or_eq_true (fgt .f32 (hB x5 x11 x17 x17) 1153138688) with e3 | e3 <;> simp only [cond_true, cond_false, e3, Bool.not_true]
      | false =>
        rw [e2] at hm
        rw [← hm]
        rcases Bool.eq_false_or_eq_true (fgt .f32 (hB x5 x11 x17 (bB x0 x1 x11)) 1153138688) with e3 | e3 <;> simp only [cond_true, cond_false, e3, Bool.not_true]
theorem iB0 {x0 x1 x2 x3 x4 x5 x6 x7 x8 x9 x10 x11 x12 x13 x14 x15 x16 x17 x18 x19 x20 x21 x22 x23 x24 x25 x26 x27 x28 x29 x30 x31 x32 x33 x34 x35 x36 x37 x38 x39 : Nat} (m0 : Mb x0 x1 x4 x10 x16) (m1 : Mb x0 x1 x5 x11 x17) (m2 : Mb x0 x1 x6 x12 x18) (m3 : Mb x0 x1 x7 x13 x19) (m4 : Mb x0 x1 x8 x14 x20) (m5 : Mb x0 x1 x9 x15 x21) : r81l0g x0 x1 x2 x3 x4 x5 x6 x7 x8 x9 x10 x11 x12 x13 x14 x15 x16 x17 x18 x19 x20 x21 x22 x23 x24 x25 x26 x27 x28 x29 x30 x31 x32 x33 x34 x35 x36 x37 x38 x39 = ((qI (qI (qI (qI (qI (qI x2 x0 x1 x4 x10 x16) x0 x1 x5 x11 x17) x0 x1 x6 x12 x18) x0 x1 x7 x13 x19) x0 x1 x8 x14 x20) x0 x1 x9 x15 x21), (pI (pI (pI (pI (pI (pI x3 x0 x1 x4 x10 x16) x0 x1 x5 x11 x17) x0 x1 x6 x12 x18) x0 x1 x7 x13 x19) x0 x1 x8 x14 x20) x0 x1 x9 x15 x21), H2 x0 x1 x4 x10 x16, H2 x0 x1 x5 x11 x17, H2 x0 x1 x6 x12 x18, H2 x0 x1 x7 x13 x19, H2 x0 x1 x8 x14 x20, H2 x0 x1 x9 x15 x21, F2 x0 x1 x4 x10 x16, F2 x0 x1 x5 x11 x17, F2 x0 x1 x6 x12 x18, F2 x0 x1 x7 x13 x19, F2 x0 x1 x8 x14 x20, F2 x0 x1 x9 x15 x21) := by
  unfold r81l0g
  simp only [iB1 m1 m2 m3 m4 m5]
  cases e : (fgt .f32 x10 1132068864 || feq .f32 x10 1132068864) with
  | false => rw [qI_f e, pI_f e, H2_f e, F2_f e]; rfl
  | true =>
    cases e' : flt .f32 x4 1040187392 with
    | false => rw [qI_g e', pI_g e', H2_g e', F2_g e']; rfl
    | true =>
      rw [qI_t e e', pI_t e e', H2_t e e', F2_t e e']
      have hm := m0 e e'
      cases e2 : flt .f32 x16 (bB x0 x1 x10) with
      | true =>
        rw [e2] at hm
        rw [← hm]
        rcases Bool.eq_false_or_eq_true (fgt .f32 (hB x4 x10 x16 x16) 1153138688) with e3 | e3 <;> simp only [cond_true, cond_false, e3, Bool.not_true]
      | false =>
        rw [e2] at hm
        rw [← hm]
        rcases Bool.eq_false_or_eq_true (fgt .f32 (hB x4 x10 x16 (bB x0 x1 x10)) 1153138688) with e3 | e3 <;> simp only [cond_true, cond_false, e3, Bool.not_true]
end Go.Proofs.Ytbmagccjcccnaaa