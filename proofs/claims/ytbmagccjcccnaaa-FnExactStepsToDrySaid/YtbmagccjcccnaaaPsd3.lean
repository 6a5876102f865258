/- A step of a log, the steps, and the plain law of StepsToDry. -/
import Derived.Test.YtbmagccjcccnaaaPsd2
namespace Go.Proofs.Ytbmagccjcccnaaa
open Go.Ab

/-- a flow within a log -/
@[reducible] def fl (t g h : Nat) : Nat := fmul .f32 (fmul .f32 1048576000 (fsub .f32 g h)) t
/-- what flows in -/
@[reducible] def fo (a t h : Nat) : Nat := fmul .f32 (fmul .f32 1056964608 (fsub .f32 a h)) t
noncomputable def G (a b w h f : Nat) : Nat := r114 (fadd .f32 h (fdiv .f32 (fsub .f32 a b) (r108 w f))) 3262119936 1153138688
theorem warmI (a t w0 w1 w2 w3 w4 w5 h0 h1 h2 h3 h4 h5 f0 f1 f2 f3 f4 f5 : Nat) : r105 w0 w1 w2 w3 w4 w5 h0 h1 h2 h3 h4 h5 f0 f1 f2 f3 f4 f5 a t = ((G (fo a t h0) (fl t h0 h1) w0 h0 f0), (G (fl t h0 h1) (fl t h1 h2) w1 h1 f1), (G (fl t h1 h2) (fl t h2 h3) w2 h2 f2), (G (fl t h2 h3) (fl t h3 h4) w3 h3 f3), (G (fl t h3 h4) (fl t h4 h5) w4 h4 f4), (G (fl t h4 h5) 0 w5 h5 f5), (fo a t h0)) := rfl
theorem warmS (a t w0 w1 w2 w3 w4 w5 h0 h1 h2 h3 h4 h5 f0 f1 f2 f3 f4 f5 : Nat) : r103 a t w0 w1 w2 w3 w4 w5 h0 h1 h2 h3 h4 h5 f0 f1 f2 f3 f4 f5 = cond (!(r102 (fo a t h0))) (0, 0, 0, 0, 0, 0, 0, 0, 0, 0, 0, 0, 0, 0, 0, 0, 0, 0, 0, 4) (w0, w1, w2, w3, w4, w5, (G (fo a t h0) (fl t h0 h1) w0 h0 f0), (G (fl t h0 h1) (fl t h1 h2) w1 h1 f1), (G (fl t h1 h2) (fl t h2 h3) w2 h2 f2), (G (fl t h2 h3) (fl t h3 h4) w3 h3 f3), (G (fl t h3 h4) (fl t h4 h5) w4 h4 f4), (G (fl t h4 h5) 0 w5 h5 f5), f0, f1, f2, f3, f4, f5, fo a t h0, 0) := rfl
theorem dryS (t w0 w1 w2 w3 w4 w5 h0 h1 h2 h3 h4 h5 f0 f1 f2 f3 f4 f5 : Nat) : r80 t w0 w1 w2 w3 w4 w5 h0 h1 h2 h3 h4 h5 f0 f1 f2 f3 f4 f5 = ((W1 t w0 h0), (W1 t w1 h1), (W1 t w2 h2), (W1 t w3 h3), (W1 t w4 h4), (W1 t w5 h5), (H1 t w0 h0 f0), (H1 t w1 h1 f1), (H1 t w2 h2 f2), (H1 t w3 h3 f3), (H1 t w4 h4 f4), (H1 t w5 h5 f5), (r80l0g t 0 w0 w1 w2 w3 w4 w5 h0 h1 h2 h3 h4 h5 f0 f1 f2 f3 f4 f5 0 0 0 0 0 0 0 0 0 0 0 0 0 0 0 0 0 0 w0 w1 w2 w3 w4 w5 h0 h1 h2 h3 h4 h5 f0 f1 f2 f3 f4 f5).1) := by
  unfold r80
  simp only [sD0]
theorem dryI {t w0 w1 w2 w3 w4 w5 h0 h1 h2 h3 h4 h5 f0 f1 f2 f3 f4 f5 : Nat} (m0 : Mn t w0 h0) (m1 : Mn t w1 h1) (m2 : Mn t w2 h2) (m3 : Mn t w3 h3) (m4 : Mn t w4 h4) (m5 : Mn t w5 h5) : r78 w0 w1 w2 w3 w4 w5 h0 h1 h2 h3 h4 h5 f0 f1 f2 f3 f4 f5 t = ((W1 t w0 h0), (W1 t w1 h1), (W1 t w2 h2), (W1 t w3 h3), (W1 t w4 h4), (W1 t w5 h5), (H1 t w0 h0 f0), (H1 t w1 h1 f1), (H1 t w2 h2 f2), (H1 t w3 h3 f3), (H1 t w4 h4 f4), (H1 t w5 h5 f5), (aI (aI (aI (aI (aI (aI 0 t w0 h0) t w1 h1) t w2 h2) t w3 h3) t w4 h4) t w5 h5)) := by
  unfold r78
  simp only [iD0 m0 m1 m2 m3 m4 m5]
theorem burnS (a t w0 w1 w2 w3 w4 w5 h0 h1 h2 h3 h4 h5 f0 f1 f2 f3 f4 f5 : Nat) : r83 a t w0 w1 w2 w3 w4 w5 h0 h1 h2 h3 h4 h5 f0 f1 f2 f3 f4 f5 = ((H2 a t w0 h0 f0), (H2 a t w1 h1 f1), (H2 a t w2 h2 f2), (H2 a t w3 h3 f3), (H2 a t w4 h4 f4), (H2 a t w5 h5 f5), (F2 a t w0 h0 f0), (F2 a t w1 h1 f1), (F2 a t w2 h2 f2), (F2 a t w3 h3 f3), (F2 a t w4 h4 f4), (F2 a t w5 h5 f5), (r83l0g a t 0 0 w0 w1 w2 w3 w4 w5 h0 h1 h2 h3 h4 h5 f0 f1 f2 f3 f4 f5 0 0 0 0 0 0 0 0 0 0 0 0 0 0 0 0 0 0 w0 w1 w2 w3 w4 w5 h0 h1 h2 h3 h4 h5 f0 f1 f2 f3 f4 f5).1, (r83l0g a t 0 0 w0 w1 w2 w3 w4 w5 h0 h1 h2 h3 h4 h5 f0 f1 f2 f3 f4 f5 0 0 0 0 0 0 0 0 0 0 0 0 0 0 0 0 0 0 w0 w1 w2 w3 w4 w5 h0 h1 h2 h3 h4 h5 f0 f1 f2 f3 f4 f5).2.1) := by
  unfold r83
  simp only [sB0]
theorem burnI {a t w0 w1 w2 w3 w4 w5 h0 h1 h2 h3 h4 h5 f0 f1 f2 f3 f4 f5 : Nat} (m0 : Mb a t w0 h0 f0) (m1 : Mb a t w1 h1 f1) (m2 : Mb a t w2 h2 f2) (m3 : Mb a t w3 h3 f3) (m4 : Mb a t w4 h4 f4) (m5 : Mb a t w5 h5 f5) : r81 w0 w1 w2 w3 w4 w5 h0 h1 h2 h3 h4 h5 f0 f1 f2 f3 f4 f5 a t = ((H2 a t w0 h0 f0), (H2 a t w1 h1 f1), (H2 a t w2 h2 f2), (H2 a t w3 h3 f3), (H2 a t w4 h4 f4), (H2 a t w5 h5 f5), (F2 a t w0 h0 f0), (F2 a t w1 h1 f1), (F2 a t w2 h2 f2), (F2 a t w3 h3 f3), (F2 a t w4 h4 f4), (F2 a t w5 h5 f5), (qI (qI (qI (qI (qI (qI 0 a t w0 h0 f0) a t w1 h1 f1) a t w2 h2 f2) a t w3 h3 f3) a t w4 h4 f4) a t w5 h5 f5), (pI (pI (pI (pI (pI (pI 0 a t w0 h0 f0) a t w1 h1 f1) a t w2 h2 f2) a t w3 h3 f3) a t w4 h4 f4) a t w5 h5 f5)) := by
  unfold r81
  simp only [iB0 m0 m1 m2 m3 m4 m5]
theorem fin4 (a b c d : Nat) : r104b a b c d = (r104 a && (r104 b && (r104 c && r104 d))) := by
  unfold r104b r104
  cases r121 (widen a) <;> cases r122 (widen a) 0 <;> try rfl
  cases r121 (widen b) <;> cases r122 (widen b) 0 <;> try rfl
  cases r121 (widen c) <;> cases r122 (widen c) 0 <;> try rfl
theorem stepS0 {a t w0 w1 w2 w3 w4 w5 h0 h1 h2 h3 h4 h5 f0 f1 f2 f3 f4 f5 : Nat} (e : r102 (fo a t h0) = false) : r72 a 0 t w0 w1 w2 w3 w4 w5 h0 h1 h2 h3 h4 h5 f0 f1 f2 f3 f4 f5 = (0, 0, 0, 0, 0, 0, 0, 0, 0, 0, 0, 0, 0, 0, 0, 0, 0, 0, 0, 0, 0, 4) := by
  unfold r72
  simp only [warmS, e, Bool.not_false, cond_true]
  rfl
theorem stepI0 {a t w0 w1 w2 w3 w4 w5 h0 h1 h2 h3 h4 h5 f0 f1 f2 f3 f4 f5 : Nat} (e : r102 (fo a t h0) = false) : (r74 w0 w1 w2 w3 w4 w5 h0 h1 h2 h3 h4 h5 f0 f1 f2 f3 f4 f5 a 0 t).2.2.2.2.2.2.2.2.2.2.2.2.2.2.2.2.2.2.2.2.2 = false := by
  have e' : r104 (fo a t h0) = false := by rw [fin_impl, ← fin_spec]; exact e
  unfold r74
  simp only [warmI, fin4, e', Bool.false_and]
theorem stepS1 {a t w0 w1 w2 w3 w4 w5 h0 h1 h2 h3 h4 h5 f0 f1 f2 f3 f4 f5 : Nat} (e : r102 (fo a t h0) = true) : ∃ u v y, r72 a 0 t w0 w1 w2 w3 w4 w5 h0 h1 h2 h3 h4 h5 f0 f1 f2 f3 f4 f5 = ((W1 t w0 (G (fo a t h0) (fl t h0 h1) w0 h0 f0)), (W1 t w1 (G (fl t h0 h1) (fl t h1 h2) w1 h1 f1)), (W1 t w2 (G (fl t h1 h2) (fl t h2 h3) w2 h2 f2)), (W1 t w3 (G (fl t h2 h3) (fl t h3 h4) w3 h3 f3)), (W1 t w4 (G (fl t h3 h4) (fl t h4 h5) w4 h4 f4)), (W1 t w5 (G (fl t h4 h5) 0 w5 h5 f5)), (H2 0 t (W1 t w0 (G (fo a t h0) (fl t h0 h1) w0 h0 f0)) (H1 t w0 (G (fo a t h0) (fl t h0 h1) w0 h0 f0) f0) f0), (H2 0 t (W1 t w1 (G (fl t h0 h1) (fl t h1 h2) w1 h1 f1)) (H1 t w1 (G (fl t h0 h1) (fl t h1 h2) w1 h1 f1) f1) f1), (H2 0 t (W1 t w2 (G (fl t h1 h2) (fl t h2 h3) w2 h2 f2)) (H1 t w2 (G (fl t h1 h2) (fl t h2 h3) w2 h2 f2) f2) f2), (H2 0 t (W1 t w3 (G (fl t h2 h3) (fl t h3 h4) w3 h3 f3)) (H1 t w3 (G (fl t h2 h3) (fl t h3 h4) w3 h3 f3) f3) f3), (H2 0 t (W1 t w4 (G (fl t h3 h4) (fl t h4 h5) w4 h4 f4)) (H1 t w4 (G (fl t h3 h4) (fl t h4 h5) w4 h4 f4) f4) f4), (H2 0 t (W1 t w5 (G (fl t h4 h5) 0 w5 h5 f5)) (H1 t w5 (G (fl t h4 h5) 0 w5 h5 f5) f5) f5), (F2 0 t (W1 t w0 (G (fo a t h0) (fl t h0 h1) w0 h0 f0)) (H1 t w0 (G (fo a t h0) (fl t h0 h1) w0 h0 f0) f0) f0), (F2 0 t (W1 t w1 (G (fl t h0 h1) (fl t h1 h2) w1 h1 f1)) (H1 t w1 (G (fl t h0 h1) (fl t h1 h2) w1 h1 f1) f1) f1), (F2 0 t (W1 t w2 (G (fl t h1 h2) (fl t h2 h3) w2 h2 f2)) (H1 t w2 (G (fl t h1 h2) (fl t h2 h3) w2 h2 f2) f2) f2), (F2 0 t (W1 t w3 (G (fl t h2 h3) (fl t h3 h4) w3 h3 f3)) (H1 t w3 (G (fl t h2 h3) (fl t h3 h4) w3 h3 f3) f3) f3), (F2 0 t (W1 t w4 (G (fl t h3 h4) (fl t h4 h5) w4 h4 f4)) (H1 t w4 (G (fl t h3 h4) (fl t h4 h5) w4 h4 f4) f4) f4), (F2 0 t (W1 t w5 (G (fl t h4 h5) 0 w5 h5 f5)) (H1 t w5 (G (fl t h4 h5) 0 w5 h5 f5) f5) f5), u, v, y, 0) := by
  unfold r72
  simp only [warmS, e, Bool.not_true, cond_false, dryS, burnS]
  exact ⟨_, _, _, rfl⟩
theorem step_ly {a t w0 w1 w2 w3 w4 w5 h0 h1 h2 h3 h4 h5 f0 f1 f2 f3 f4 f5 : Nat} (l0 : Ly w0 h0 f0) (l1 : Ly w1 h1 f1) (l2 : Ly w2 h2 f2) (l3 : Ly w3 h3 f3) (l4 : Ly w4 h4 f4) (l5 : Ly w5 h5 f5) (ht : t ≤ 1065353216) (e : r102 (fo a t h0) = true) : Ly (W1 t w0 (G (fo a t h0) (fl t h0 h1) w0 h0 f0)) (H2 0 t (W1 t w0 (G (fo a t h0) (fl t h0 h1) w0 h0 f0)) (H1 t w0 (G (fo a t h0) (fl t h0 h1) w0 h0 f0) f0) f0) (F2 0 t (W1 t w0 (G (fo a t h0) (fl t h0 h1) w0 h0 f0)) (H1 t w0 (G (fo a t h0) (fl t h0 h1) w0 h0 f0) f0) f0) ∧ Ly (W1 t w1 (G (fl t h0 h1) (fl t h1 h2) w1 h1 f1)) (H2 0 t (W1 t w1 (G (fl t h0 h1) (fl t h1 h2) w1 h1 f1)) (H1 t w1 (G (fl t h0 h1) (fl t h1 h2) w1 h1 f1) f1) f1) (F2 0 t (W1 t w1 (G (fl t h0 h1) (fl t h1 h2) w1 h1 f1)) (H1 t w1 (G (fl t h0 h1) (fl t h1 h2) w1 h1 f1) f1) f1) ∧ Ly (W1 t w2 (G (fl t h1 h2) (fl t h2 h3) w2 h2 f2)) (H2 0 t (W1 t w2 (G (fl t h1 h2) (fl t h2 h3) w2 h2 f2)) (H1 t w2 (G (fl t h1 h2) (fl t h2 h3) w2 h2 f2) f2) f2) (F2 0 t (W1 t w2 (G (fl t h1 h2) (fl t h2 h3) w2 h2 f2)) (H1 t w2 (G (fl t h1 h2) (fl t h2 h3) w2 h2 f2) f2) f2) ∧ Ly (W1 t w3 (G (fl t h2 h3) (fl t h3 h4) w3 h3 f3)) (H2 0 t (W1 t w3 (G (fl t h2 h3) (fl t h3 h4) w3 h3 f3)) (H1 t w3 (G (fl t h2 h3) (fl t h3 h4) w3 h3 f3) f3) f3) (F2 0 t (W1 t w3 (G (fl t h2 h3) (fl t h3 h4) w3 h3 f3)) (H1 t w3 (G (fl t h2 h3) (fl t h3 h4) w3 h3 f3) f3) f3) ∧ Ly (W1 t w4 (G (fl t h3 h4) (fl t h4 h5) w4 h4 f4)) (H2 0 t (W1 t w4 (G (fl t h3 h4) (fl t h4 h5) w4 h4 f4)) (H1 t w4 (G (fl t h3 h4) (fl t h4 h5) w4 h4 f4) f4) f4) (F2 0 t (W1 t w4 (G (fl t h3 h4) (fl t h4 h5) w4 h4 f4)) (H1 t w4 (G (fl t h3 h4) (fl t h4 h5) w4 h4 f4) f4) f4) ∧ Ly (W1 t w5 (G (fl t h4 h5) 0 w5 h5 f5)) (H2 0 t (W1 t w5 (G (fl t h4 h5) 0 w5 h5 f5)) (H1 t w5 (G (fl t h4 h5) 0 w5 h5 f5) f5) f5) (F2 0 t (W1 t w5 (G (fl t h4 h5) 0 w5 h5 f5)) (H1 t w5 (G (fl t h4 h5) 0 w5 h5 f5) f5) f5) := by
  have k0 : Fi (fo a t h0) := by rw [fin_spec] at e; unfold Fi; exact of_decide_eq_true e
  have k6 : Fi 0 := by unfold Fi; omega
  have k1 : Fi (fl t h0 h1) := flow_fi l0.2.1 l1.2.1 ht
  have k2 : Fi (fl t h1 h2) := flow_fi l1.2.1 l2.2.1 ht
  have k3 : Fi (fl t h2 h3) := flow_fi l2.2.1 l3.2.1 ht
  have k4 : Fi (fl t h3 h4) := flow_fi l3.2.1 l4.2.1 ht
  have k5 : Fi (fl t h4 h5) := flow_fi l4.2.1 l5.2.1 ht
  have g0 : Ly w0 (G (fo a t h0) (fl t h0 h1) w0 h0 f0) f0 := ⟨l0.1, warm_ht l0 k0 k1, l0.2.2⟩
  have g1 : Ly w1 (G (fl t h0 h1) (fl t h1 h2) w1 h1 f1) f1 := ⟨l1.1, warm_ht l1 k1 k2, l1.2.2⟩
  have g2 : Ly w2 (G (fl t h1 h2) (fl t h2 h3) w2 h2 f2) f2 := ⟨l2.1, warm_ht l2 k2 k3, l2.2.2⟩
  have g3 : Ly w3 (G (fl t h2 h3) (fl t h3 h4) w3 h3 f3) f3 := ⟨l3.1, warm_ht l3 k3 k4, l3.2.2⟩
  have g4 : Ly w4 (G (fl t h3 h4) (fl t h4 h5) w4 h4 f4) f4 := ⟨l4.1, warm_ht l4 k4 k5, l4.2.2⟩
  have g5 : Ly w5 (G (fl t h4 h5) 0 w5 h5 f5) f5 := ⟨l5.1, warm_ht l5 k5 k6, l5.2.2⟩
  exact ⟨burn_ly (dry_ly g0 ht) ht, burn_ly (dry_ly g1 ht) ht, burn_ly (dry_ly g2 ht) ht, burn_ly (dry_ly g3 ht) ht, burn_ly (dry_ly g4 ht) ht, burn_ly (dry_ly g5 ht) ht⟩
theorem stepI1 {a t w0 w1 w2 w3 w4 w5 h0 h1 h2 h3 h4 h5 f0 f1 f2 f3 f4 f5 : Nat} (l0 : Ly w0 h0 f0) (l1 : Ly w1 h1 f1) (l2 : Ly w2 h2 f2) (l3 : Ly w3 h3 f3) (l4 : Ly w4 h4 f4) (l5 : Ly w5 h5 f5) (ht : t ≤ 1065353216) (e : r102 (fo a t h0) = true) : ∃ u v y, r74 w0 w1 w2 w3 w4 w5 h0 h1 h2 h3 h4 h5 f0 f1 f2 f3 f4 f5 a 0 t = ((W1 t w0 (G (fo a t h0) (fl t h0 h1) w0 h0 f0)), (W1 t w1 (G (fl t h0 h1) (fl t h1 h2) w1 h1 f1)), (W1 t w2 (G (fl t h1 h2) (fl t h2 h3) w2 h2 f2)), (W1 t w3 (G (fl t h2 h3) (fl t h3 h4) w3 h3 f3)), (W1 t w4 (G (fl t h3 h4) (fl t h4 h5) w4 h4 f4)), (W1 t w5 (G (fl t h4 h5) 0 w5 h5 f5)), (H2 0 t (W1 t w0 (G (fo a t h0) (fl t h0 h1) w0 h0 f0)) (H1 t w0 (G (fo a t h0) (fl t h0 h1) w0 h0 f0) f0) f0), (H2 0 t (W1 t w1 (G (fl t h0 h1) (fl t h1 h2) w1 h1 f1)) (H1 t w1 (G (fl t h0 h1) (fl t h1 h2) w1 h1 f1) f1) f1), (H2 0 t (W1 t w2 (G (fl t h1 h2) (fl t h2 h3) w2 h2 f2)) (H1 t w2 (G (fl t h1 h2) (fl t h2 h3) w2 h2 f2) f2) f2), (H2 0 t (W1 t w3 (G (fl t h2 h3) (fl t h3 h4) w3 h3 f3)) (H1 t w3 (G (fl t h2 h3) (fl t h3 h4) w3 h3 f3) f3) f3), (H2 0 t (W1 t w4 (G (fl t h3 h4) (fl t h4 h5) w4 h4 f4)) (H1 t w4 (G (fl t h3 h4) (fl t h4 h5) w4 h4 f4) f4) f4), (H2 0 t (W1 t w5 (G (fl t h4 h5) 0 w5 h5 f5)) (H1 t w5 (G (fl t h4 h5) 0 w5 h5 f5) f5) f5), (F2 0 t (W1 t w0 (G (fo a t h0) (fl t h0 h1) w0 h0 f0)) (H1 t w0 (G (fo a t h0) (fl t h0 h1) w0 h0 f0) f0) f0), (F2 0 t (W1 t w1 (G (fl t h0 h1) (fl t h1 h2) w1 h1 f1)) (H1 t w1 (G (fl t h0 h1) (fl t h1 h2) w1 h1 f1) f1) f1), (F2 0 t (W1 t w2 (G (fl t h1 h2) (fl t h2 h3) w2 h2 f2)) (H1 t w2 (G (fl t h1 h2) (fl t h2 h3) w2 h2 f2) f2) f2), (F2 0 t (W1 t w3 (G (fl t h2 h3) (fl t h3 h4) w3 h3 f3)) (H1 t w3 (G (fl t h2 h3) (fl t h3 h4) w3 h3 f3) f3) f3), (F2 0 t (W1 t w4 (G (fl t h3 h4) (fl t h4 h5) w4 h4 f4)) (H1 t w4 (G (fl t h3 h4) (fl t h4 h5) w4 h4 f4) f4) f4), (F2 0 t (W1 t w5 (G (fl t h4 h5) 0 w5 h5 f5)) (H1 t w5 (G (fl t h4 h5) 0 w5 h5 f5) f5) f5), u, v, y, true) := by
  have k0 : Fi (fo a t h0) := by rw [fin_spec] at e; unfold Fi; exact of_decide_eq_true e
  have k6 : Fi 0 := by unfold Fi; omega
  have k1 : Fi (fl t h0 h1) := flow_fi l0.2.1 l1.2.1 ht
  have k2 : Fi (fl t h1 h2) := flow_fi l1.2.1 l2.2.1 ht
  have k3 : Fi (fl t h2 h3) := flow_fi l2.2.1 l3.2.1 ht
  have k4 : Fi (fl t h3 h4) := flow_fi l3.2.1 l4.2.1 ht
  have k5 : Fi (fl t h4 h5) := flow_fi l4.2.1 l5.2.1 ht
  have g0 : Ly w0 (G (fo a t h0) (fl t h0 h1) w0 h0 f0) f0 := ⟨l0.1, warm_ht l0 k0 k1, l0.2.2⟩
  have g1 : Ly w1 (G (fl t h0 h1) (fl t h1 h2) w1 h1 f1) f1 := ⟨l1.1, warm_ht l1 k1 k2, l1.2.2⟩
  have g2 : Ly w2 (G (fl t h1 h2) (fl t h2 h3) w2 h2 f2) f2 := ⟨l2.1, warm_ht l2 k2 k3, l2.2.2⟩
  have g3 : Ly w3 (G (fl t h2 h3) (fl t h3 h4) w3 h3 f3) f3 := ⟨l3.1, warm_ht l3 k3 k4, l3.2.2⟩
  have g4 : Ly w4 (G (fl t h3 h4) (fl t h4 h5) w4 h4 f4) f4 := ⟨l4.1, warm_ht l4 k4 k5, l4.2.2⟩
  have g5 : Ly w5 (G (fl t h4 h5) 0 w5 h5 f5) f5 := ⟨l5.1, warm_ht l5 k5 k6, l5.2.2⟩
  have d0 := dry_ly g0 ht
  have d1 := dry_ly g1 ht
  have d2 := dry_ly g2 ht
  have d3 := dry_ly g3 ht
  have d4 := dry_ly g4 ht
  have d5 := dry_ly g5 ht
  have s1 : (aI 0 t w0 (G (fo a t h0) (fl t h0 h1) w0 h0 f0)) ≤ 1092616192 := aI_le (r := 0) g0 ht (Nat.le_refl _) (by omega) (by omega) (by omega) (by decide +kernel)
  have s2 : (aI (aI 0 t w0 (G (fo a t h0) (fl t h0 h1) w0 h0 f0)) t w1 (G (fl t h0 h1) (fl t h1 h2) w1 h1 f1)) ≤ 1101004800 := aI_le (r := 1092616192) g1 ht s1 (by omega) (by omega) (by omega) (by decide +kernel)
  have s3 : (aI (aI (aI 0 t w0 (G (fo a t h0) (fl t h0 h1) w0 h0 f0)) t w1 (G (fl t h0 h1) (fl t h1 h2) w1 h1 f1)) t w2 (G (fl t h1 h2) (fl t h2 h3) w2 h2 f2)) ≤ 1106247680 := aI_le (r := 1101004800) g2 ht s2 (by omega) (by omega) (by omega) (by decide +kernel)
  have s4 : (aI (aI (aI (aI 0 t w0 (G (fo a t h0) (fl t h0 h1) w0 h0 f0)) t w1 (G (fl t h0 h1) (fl t h1 h2) w1 h1 f1)) t w2 (G (fl t h1 h2) (fl t h2 h3) w2 h2 f2)) t w3 (G (fl t h2 h3) (fl t h3 h4) w3 h3 f3)) ≤ 1109393408 := aI_le (r := 1106247680) g3 ht s3 (by omega) (by omega) (by omega) (by decide +kernel)
  have s5 : (aI (aI (aI (aI (aI 0 t w0 (G (fo a t h0) (fl t h0 h1) w0 h0 f0)) t w1 (G (fl t h0 h1) (fl t h1 h2) w1 h1 f1)) t w2 (G (fl t h1 h2) (fl t h2 h3) w2 h2 f2)) t w3 (G (fl t h2 h3) (fl t h3 h4) w3 h3 f3)) t w4 (G (fl t h3 h4) (fl t h4 h5) w4 h4 f4)) ≤ 1112014848 := aI_le (r := 1109393408) g4 ht s4 (by omega) (by omega) (by omega) (by decide +kernel)
  have s6 : (aI (aI (aI (aI (aI (aI 0 t w0 (G (fo a t h0) (fl t h0 h1) w0 h0 f0)) t w1 (G (fl t h0 h1) (fl t h1 h2) w1 h1 f1)) t w2 (G (fl t h1 h2) (fl t h2 h3) w2 h2 f2)) t w3 (G (fl t h2 h3) (fl t h3 h4) w3 h3 f3)) t w4 (G (fl t h3 h4) (fl t h4 h5) w4 h4 f4)) t w5 (G (fl t h4 h5) 0 w5 h5 f5)) ≤ 1114636288 := aI_le (r := 1112014848) g5 ht s5 (by omega) (by omega) (by omega) (by decide +kernel)
  have e' : r104 (fo a t h0) = true := by rw [fin_impl, ← fin_spec]; exact e
  have e0 : r104 0 = true := by rw [fin_impl]; rfl
  have e2 : r104 (fsub .f32 0 (fo a t h0)) = true := by
    rw [fin_impl]
    have k0' : Le (fo a t h0) 2139095039 := by unfold Fi at k0; unfold Le; omega
    have := (diff_le (a := 0) (r1 := 0) (r := 2139095039) (Nat.le_refl _) k0' (by omega) (by omega) (by omega) (by decide +kernel)).fi (by omega)
    exact decide_eq_true this
  have e3 : r104 (aI (aI (aI (aI (aI (aI 0 t w0 (G (fo a t h0) (fl t h0 h1) w0 h0 f0)) t w1 (G (fl t h0 h1) (fl t h1 h2) w1 h1 f1)) t w2 (G (fl t h1 h2) (fl t h2 h3) w2 h2 f2)) t w3 (G (fl t h2 h3) (fl t h3 h4) w3 h3 f3)) t w4 (G (fl t h3 h4) (fl t h4 h5) w4 h4 f4)) t w5 (G (fl t h4 h5) 0 w5 h5 f5)) = true := by
    rw [fin_impl]; exact decide_eq_true (by omega)
  unfold r74
  simp only [warmI, dryI (mn_ok g0 ht) (mn_ok g1 ht) (mn_ok g2 ht) (mn_ok g3 ht) (mn_ok g4 ht) (mn_ok g5 ht), burnI (mb_ok d0 ht) (mb_ok d1 ht) (mb_ok d2 ht) (mb_ok d3 ht) (mb_ok d4 ht) (mb_ok d5 ht), (q_zero d0 ht).1, (q_zero d1 ht).1, (q_zero d2 ht).1, (q_zero d3 ht).1, (q_zero d4 ht).1, (q_zero d5 ht).1, (q_zero d0 ht).2, (q_zero d1 ht).2, (q_zero d2 ht).2, (q_zero d3 ht).2, (q_zero d4 ht).2, (q_zero d5 ht).2, fin4, e', e2, e3, e0, Bool.true_and]
  exact ⟨_, _, _, rfl⟩
/-! ### the steps -/
def Same (A B : Nat × Int × Int × Nat × Nat × Nat × Nat × Nat × Nat × Nat × Nat × Nat × Nat × Nat × Nat × Nat × Nat × Nat × Nat × Nat × Nat) : Prop := A.1 = 0 ∧ B.1 = 0 ∧ A.2.1 = B.2.1 ∧ A.2.2.1 = B.2.2.1
theorem Same.rfl' {x y : Int} {A B : Nat × Int × Int × Nat × Nat × Nat × Nat × Nat × Nat × Nat × Nat × Nat × Nat × Nat × Nat × Nat × Nat × Nat × Nat × Nat × Nat} (h1 : A.1 = 0) (h2 : B.1 = 0) (h3 : A.2.1 = x) (h4 : B.2.1 = x) (h5 : A.2.2.1 = y) (h6 : B.2.2.1 = y) : Same A B := ⟨h1, h2, h3.trans h4.symm, h5.trans h6.symm⟩
theorem loop {a t n : Nat} (hn : n ≤ 300) (ht : t ≤ 1065353216) : ∀ (k i fs fi w0 w1 w2 w3 w4 w5 h0 h1 h2 h3 h4 h5 f0 f1 f2 f3 f4 f5 : Nat), i + k = n → k < fs → k < fi → Ly w0 h0 f0 → Ly w1 h1 f1 → Ly w2 h2 f2 → Ly w3 h3 f3 → Ly w4 h4 f4 → Ly w5 h5 f5 → Same (r28l0 fs a t (n : Int) (i : Int) w0 w1 w2 w3 w4 w5 h0 h1 h2 h3 h4 h5 f0 f1 f2 f3 f4 f5) (r29l0 fi a t (n : Int) (i : Int) w0 w1 w2 w3 w4 w5 h0 h1 h2 h3 h4 h5 f0 f1 f2 f3 f4 f5) := by
  intro k
  induction k with
  | zero =>
    intro i fs fi w0 w1 w2 w3 w4 w5 h0 h1 h2 h3 h4 h5 f0 f1 f2 f3 f4 f5 h hf1 hf2 l0 l1 l2 l3 l4 l5
    obtain ⟨u, rfl⟩ : ∃ m, fs = m + 1 := ⟨fs - 1, by omega⟩
    obtain ⟨u', rfl⟩ : ∃ m, fi = m + 1 := ⟨fi - 1, by omega⟩
    show Same (b28l0 (r28l0 u) _ _ _ _ _ _ _ _ _ _ _ _ _ _ _ _ _ _ _ _ _ _) (b29l0 (r29l0 u') _ _ _ _ _ _ _ _ _ _ _ _ _ _ _ _ _ _ _ _ _ _)
    have hin : (((i : Nat) : Int) == ((n : Nat) : Int)) = true := by rw [beq_iff_eq]; omega
    unfold b28l0 b29l0
    rw [show r60 w0 w1 w2 w3 w4 w5 h0 h1 h2 h3 h4 h5 f0 f1 f2 f3 f4 f5 = r58 w0 w1 w2 w3 w4 w5 h0 h1 h2 h3 h4 h5 f0 f1 f2 f3 f4 f5 from rfl, hin]
    cases flt .f32 (r58 w0 w1 w2 w3 w4 w5 h0 h1 h2 h3 h4 h5 f0 f1 f2 f3 f4 f5) 1015021568 with
    | true => exact ⟨rfl, rfl, rfl, rfl⟩
    | false => exact ⟨rfl, rfl, rfl, rfl⟩
  | succ k ih =>
    intro i fs fi w0 w1 w2 w3 w4 w5 h0 h1 h2 h3 h4 h5 f0 f1 f2 f3 f4 f5 h hf1 hf2 l0 l1 l2 l3 l4 l5
    obtain ⟨u, rfl⟩ : ∃ m, fs = m + 1 := ⟨fs - 1, by omega⟩
    obtain ⟨u', rfl⟩ : ∃ m, fi = m + 1 := ⟨fi - 1, by omega⟩
    show Same (b28l0 (r28l0 u) _ _ _ _ _ _ _ _ _ _ _ _ _ _ _ _ _ _ _ _ _ _) (b29l0 (r29l0 u') _ _ _ _ _ _ _ _ _ _ _ _ _ _ _ _ _ _ _ _ _ _)
    have hin : (((i : Nat) : Int) == ((n : Nat) : Int)) = false := by rw [beq_eq_false_iff_ne]; omega
    cases e : r102 (fo a t h0) with
    | false =>
      have e1 : (r74 w0 w1 w2 w3 w4 w5 h0 h1 h2 h3 h4 h5 f0 f1 f2 f3 f4 f5 a 0 t).2.2.2.2.2.2.2.2.2.2.2.2.2.2.2.2.2.2.2.2.2 = false := stepI0 e
      unfold b28l0 b29l0
      rw [show r60 w0 w1 w2 w3 w4 w5 h0 h1 h2 h3 h4 h5 f0 f1 f2 f3 f4 f5 = r58 w0 w1 w2 w3 w4 w5 h0 h1 h2 h3 h4 h5 f0 f1 f2 f3 f4 f5 from rfl, hin, stepS0 e, e1]
      cases flt .f32 (r58 w0 w1 w2 w3 w4 w5 h0 h1 h2 h3 h4 h5 f0 f1 f2 f3 f4 f5) 1015021568 with
      | true => exact ⟨rfl, rfl, rfl, rfl⟩
      | false => exact ⟨rfl, rfl, rfl, rfl⟩
    | true =>
      obtain ⟨u1, v1, y1, e1⟩ := stepS1 e
      obtain ⟨u2, v2, y2, e2⟩ := stepI1 l0 l1 l2 l3 l4 l5 ht e
      obtain ⟨n0, n1, n2, n3, n4, n5⟩ := step_ly l0 l1 l2 l3 l4 l5 ht e
      unfold b28l0 b29l0
      rw [show r60 w0 w1 w2 w3 w4 w5 h0 h1 h2 h3 h4 h5 f0 f1 f2 f3 f4 f5 = r58 w0 w1 w2 w3 w4 w5 h0 h1 h2 h3 h4 h5 f0 f1 f2 f3 f4 f5 from rfl, hin, e1, e2, wrap_succ (show i < 9223372036854775807 by omega)]
      cases flt .f32 (r58 w0 w1 w2 w3 w4 w5 h0 h1 h2 h3 h4 h5 f0 f1 f2 f3 f4 f5) 1015021568 with
      | true => exact ⟨rfl, rfl, rfl, rfl⟩
      | false => exact ih (i + 1) u u' _ _ _ _ _ _ _ _ _ _ _ _ _ _ _ _ _ _ (by omega) (by omega) (by omega) n0 n1 n2 n3 n4 n5
/-! ### validity -/
theorem valid_eq {w0 w1 w2 w3 w4 w5 h0 h1 h2 h3 h4 h5 f0 f1 f2 f3 f4 f5 : Nat} (bw0 : w0 < 4294967296) (bw1 : w1 < 4294967296) (bw2 : w2 < 4294967296) (bw3 : w3 < 4294967296) (bw4 : w4 < 4294967296) (bw5 : w5 < 4294967296) (bh0 : h0 < 4294967296) (bh1 : h1 < 4294967296) (bh2 : h2 < 4294967296) (bh3 : h3 < 4294967296) (bh4 : h4 < 4294967296) (bh5 : h5 < 4294967296) (bf0 : f0 < 4294967296) (bf1 : f1 < 4294967296) (bf2 : f2 < 4294967296) (bf3 : f3 < 4294967296) (bf4 : f4 < 4294967296) (bf5 : f5 < 4294967296) : r57 w0 w1 w2 w3 w4 w5 h0 h1 h2 h3 h4 h5 f0 f1 f2 f3 f4 f5 = r38 w0 w1 w2 w3 w4 w5 h0 h1 h2 h3 h4 h5 f0 f1 f2 f3 f4 f5 := by
  unfold r57 r38
  rw [upto_eq w0 1092616192 bw0 (by decide), upto_eq f0 1092616192 bf0 (by decide), within_eq h0, upto_eq w1 1092616192 bw1 (by decide), upto_eq f1 1092616192 bf1 (by decide), within_eq h1, upto_eq w2 1092616192 bw2 (by decide), upto_eq f2 1092616192 bf2 (by decide), within_eq h2, upto_eq w3 1092616192 bw3 (by decide), upto_eq f3 1092616192 bf3 (by decide), within_eq h3, upto_eq w4 1092616192 bw4 (by decide), upto_eq f4 1092616192 bf4 (by decide), within_eq h4, upto_eq w5 1092616192 bw5 (by decide), upto_eq f5 1092616192 bf5 (by decide), within_eq h5]
theorem valid_ly {w0 w1 w2 w3 w4 w5 h0 h1 h2 h3 h4 h5 f0 f1 f2 f3 f4 f5 : Nat} (bw0 : w0 < 4294967296) (bw1 : w1 < 4294967296) (bw2 : w2 < 4294967296) (bw3 : w3 < 4294967296) (bw4 : w4 < 4294967296) (bw5 : w5 < 4294967296) (bh0 : h0 < 4294967296) (bh1 : h1 < 4294967296) (bh2 : h2 < 4294967296) (bh3 : h3 < 4294967296) (bh4 : h4 < 4294967296) (bh5 : h5 < 4294967296) (bf0 : f0 < 4294967296) (bf1 : f1 < 4294967296) (bf2 : f2 < 4294967296) (bf3 : f3 < 4294967296) (bf4 : f4 < 4294967296) (bf5 : f5 < 4294967296) (e : r38 w0 w1 w2 w3 w4 w5 h0 h1 h2 h3 h4 h5 f0 f1 f2 f3 f4 f5 = true) : Ly w0 h0 f0 ∧ Ly w1 h1 f1 ∧ Ly w2 h2 f2 ∧ Ly w3 h3 f3 ∧ Ly w4 h4 f4 ∧ Ly w5 h5 f5 := by
  unfold r38 at e
  obtain ⟨a0, e⟩ := cond_not e
  obtain ⟨b0, e⟩ := cond_not e
  obtain ⟨c0, e⟩ := cond_not e
  obtain ⟨a1, e⟩ := cond_not e
  obtain ⟨b1, e⟩ := cond_not e
  obtain ⟨c1, e⟩ := cond_not e
  obtain ⟨a2, e⟩ := cond_not e
  obtain ⟨b2, e⟩ := cond_not e
  obtain ⟨c2, e⟩ := cond_not e
  obtain ⟨a3, e⟩ := cond_not e
  obtain ⟨b3, e⟩ := cond_not e
  obtain ⟨c3, e⟩ := cond_not e
  obtain ⟨a4, e⟩ := cond_not e
  obtain ⟨b4, e⟩ := cond_not e
  obtain ⟨c4, e⟩ := cond_not e
  obtain ⟨a5, e⟩ := cond_not e
  obtain ⟨b5, e⟩ := cond_not e
  obtain ⟨c5, e⟩ := cond_not e
  exact ⟨⟨upto_le bw0 (by omega) a0, within_ht bh0 c0, upto_le bf0 (by omega) b0⟩, ⟨upto_le bw1 (by omega) a1, within_ht bh1 c1, upto_le bf1 (by omega) b1⟩, ⟨upto_le bw2 (by omega) a2, within_ht bh2 c2, upto_le bf2 (by omega) b2⟩, ⟨upto_le bw3 (by omega) a3, within_ht bh3 c3, upto_le bf3 (by omega) b3⟩, ⟨upto_le bw4 (by omega) a4, within_ht bh4 c4, upto_le bf4 (by omega) b4⟩, ⟨upto_le bw5 (by omega) a5, within_ht bh5 c5, upto_le bf5 (by omega) b5⟩⟩
theorem time_le {d : Nat} (hd : d < 4294967296) (h : r77 d = true) : d ≤ 1065353216 := upto_le hd (by omega) (show r85 d 1065353216 = true from h)
theorem code_eq {w0 w1 w2 w3 w4 w5 h0 h1 h2 h3 h4 h5 f0 f1 f2 f3 f4 f5 a t : Nat} (bw0 : w0 < 4294967296) (bw1 : w1 < 4294967296) (bw2 : w2 < 4294967296) (bw3 : w3 < 4294967296) (bw4 : w4 < 4294967296) (bw5 : w5 < 4294967296) (bh0 : h0 < 4294967296) (bh1 : h1 < 4294967296) (bh2 : h2 < 4294967296) (bh3 : h3 < 4294967296) (bh4 : h4 < 4294967296) (bh5 : h5 < 4294967296) (bf0 : f0 < 4294967296) (bf1 : f1 < 4294967296) (bf2 : f2 < 4294967296) (bf3 : f3 < 4294967296) (bf4 : f4 < 4294967296) (bf5 : f5 < 4294967296) (ba : a < 4294967296) (bt : t < 4294967296) : r70 a 0 t w0 w1 w2 w3 w4 w5 h0 h1 h2 h3 h4 h5 f0 f1 f2 f3 f4 f5 = r73 w0 w1 w2 w3 w4 w5 h0 h1 h2 h3 h4 h5 f0 f1 f2 f3 f4 f5 a 0 t := by
  unfold r70 r73
  rw [valid_eq bw0 bw1 bw2 bw3 bw4 bw5 bh0 bh1 bh2 bh3 bh4 bh5 bf0 bf1 bf2 bf3 bf4 bf5, fin_spec, ← fin_impl, share_eq 0 (by omega), show r79 t = r82 t from rfl, share_eq t bt]
theorem plain8 (x0 x1 x2 x3 x4 x5 x6 x7 x8 x9 x10 x11 x12 x13 x14 x15 x16 x17 x18 x19 : Nat) (x20 : Int) (p0 : FloatKind.f32.has x0) (p1 : FloatKind.f32.has x1) (p2 : FloatKind.f32.has x2) (p3 : FloatKind.f32.has x3) (p4 : FloatKind.f32.has x4) (p5 : FloatKind.f32.has x5) (p6 : FloatKind.f32.has x6) (p7 : FloatKind.f32.has x7) (p8 : FloatKind.f32.has x8) (p9 : FloatKind.f32.has x9) (p10 : FloatKind.f32.has x10) (p11 : FloatKind.f32.has x11) (p12 : FloatKind.f32.has x12) (p13 : FloatKind.f32.has x13) (p14 : FloatKind.f32.has x14) (p15 : FloatKind.f32.has x15) (p16 : FloatKind.f32.has x16) (p17 : FloatKind.f32.has x17) (p18 : FloatKind.f32.has x18) (p19 : FloatKind.f32.has x19) (_ : IntKind.i64.has x20) : r8 x0 x1 x2 x3 x4 x5 x6 x7 x8 x9 x10 x11 x12 x13 x14 x15 x16 x17 x18 x19 x20 = (0, true) := by
  have key : ∃ p c, r28 x0 x1 x2 x3 x4 x5 x6 x7 x8 x9 x10 x11 x12 x13 x14 x15 x16 x17 x18 x19 x20 = (0, p, c) ∧ r29 x0 x1 x2 x3 x4 x5 x6 x7 x8 x9 x10 x11 x12 x13 x14 x15 x16 x17 x18 x19 x20 = (0, p, c) := by
    have hc : r70 x18 0 x19 x0 x1 x2 x3 x4 x5 x6 x7 x8 x9 x10 x11 x12 x13 x14 x15 x16 x17 = r73 x0 x1 x2 x3 x4 x5 x6 x7 x8 x9 x10 x11 x12 x13 x14 x15 x16 x17 x18 0 x19 := code_eq (has32 p0) (has32 p1) (has32 p2) (has32 p3) (has32 p4) (has32 p5) (has32 p6) (has32 p7) (has32 p8) (has32 p9) (has32 p10) (has32 p11) (has32 p12) (has32 p13) (has32 p14) (has32 p15) (has32 p16) (has32 p17) (has32 p18) (has32 p19)
    unfold r28 r29
    rw [hc]
    cases v : r38 x0 x1 x2 x3 x4 x5 x6 x7 x8 x9 x10 x11 x12 x13 x14 x15 x16 x17 with
    | false =>
      have e : r73 x0 x1 x2 x3 x4 x5 x6 x7 x8 x9 x10 x11 x12 x13 x14 x15 x16 x17 x18 0 x19 = 1 := by unfold r73; rw [v]; rfl
      rw [e]; exact ⟨_, _, rfl, rfl⟩
    | true =>
    cases v1 : r104 x18 with
    | false =>
      have e : r73 x0 x1 x2 x3 x4 x5 x6 x7 x8 x9 x10 x11 x12 x13 x14 x15 x16 x17 x18 0 x19 = 2 := by unfold r73; rw [v, v1]; rfl
      rw [e]; exact ⟨_, _, rfl, rfl⟩
    | true =>
    cases v2 : r77 0 with
    | false =>
      have e : r73 x0 x1 x2 x3 x4 x5 x6 x7 x8 x9 x10 x11 x12 x13 x14 x15 x16 x17 x18 0 x19 = 2 := by unfold r73; rw [v, v1, v2]; rfl
      rw [e]; exact ⟨_, _, rfl, rfl⟩
    | true =>
    cases v3 : r77 x19 with
    | false =>
      have e : r73 x0 x1 x2 x3 x4 x5 x6 x7 x8 x9 x10 x11 x12 x13 x14 x15 x16 x17 x18 0 x19 = 2 := by unfold r73; rw [v, v1, v2, v3]; rfl
      rw [e]; exact ⟨_, _, rfl, rfl⟩
    | true =>
    have e : r73 x0 x1 x2 x3 x4 x5 x6 x7 x8 x9 x10 x11 x12 x13 x14 x15 x16 x17 x18 0 x19 = 0 := by unfold r73; rw [v, v1, v2, v3]; rfl
    rw [e]
    by_cases g0 : x20 < 0
    · have k : r71 x20 0 300 = false := by unfold r71; rw [decide_eq_false (show ¬ (x20 ≥ 0) by omega)]; rfl
      rw [k, decide_eq_true g0]; exact ⟨_, _, rfl, rfl⟩
    by_cases g1 : x20 > 300
    · have k : r71 x20 0 300 = false := by unfold r71; rw [decide_eq_true (show x20 ≥ 0 by omega), decide_eq_false (show ¬ (x20 ≤ 300) by omega)]; rfl
      rw [k, decide_eq_false g0, decide_eq_true g1]; exact ⟨_, _, rfl, rfl⟩
    have k : r71 x20 0 300 = true := by unfold r71; rw [decide_eq_true (show x20 ≥ 0 by omega), decide_eq_true (show x20 ≤ 300 by omega)]; rfl
    rw [k, decide_eq_false g0, decide_eq_false g1]
    obtain ⟨n, rfl⟩ : ∃ n : Nat, x20 = (n : Int) := ⟨x20.toNat, by omega⟩
    obtain ⟨l0, l1, l2, l3, l4, l5⟩ := valid_ly (has32 p0) (has32 p1) (has32 p2) (has32 p3) (has32 p4) (has32 p5) (has32 p6) (has32 p7) (has32 p8) (has32 p9) (has32 p10) (has32 p11) (has32 p12) (has32 p13) (has32 p14) (has32 p15) (has32 p16) (has32 p17) v
    obtain ⟨s1, s2, s3, s4⟩ := loop (a := x18) (t := x19) (n := n) (by omega) (time_le (has32 p19) v3) n 0 1000 1000 x0 x1 x2 x3 x4 x5 x6 x7 x8 x9 x10 x11 x12 x13 x14 x15 x16 x17 (by omega) (by omega) (by omega) l0 l1 l2 l3 l4 l5
    have s1' : (r28l0 1000 x18 x19 (n : Int) 0 x0 x1 x2 x3 x4 x5 x6 x7 x8 x9 x10 x11 x12 x13 x14 x15 x16 x17).1 = 0 := s1
    have s2' : (r29l0 1000 x18 x19 (n : Int) 0 x0 x1 x2 x3 x4 x5 x6 x7 x8 x9 x10 x11 x12 x13 x14 x15 x16 x17).1 = 0 := s2
    have s3' : (r28l0 1000 x18 x19 (n : Int) 0 x0 x1 x2 x3 x4 x5 x6 x7 x8 x9 x10 x11 x12 x13 x14 x15 x16 x17).2.1 = (r29l0 1000 x18 x19 (n : Int) 0 x0 x1 x2 x3 x4 x5 x6 x7 x8 x9 x10 x11 x12 x13 x14 x15 x16 x17).2.1 := s3
    have s4' : (r28l0 1000 x18 x19 (n : Int) 0 x0 x1 x2 x3 x4 x5 x6 x7 x8 x9 x10 x11 x12 x13 x14 x15 x16 x17).2.2.1 = (r29l0 1000 x18 x19 (n : Int) 0 x0 x1 x2 x3 x4 x5 x6 x7 x8 x9 x10 x11 x12 x13 x14 x15 x16 x17).2.2.1 := s4
    rw [s1', s2', s3', s4']
    exact ⟨_, _, rfl, rfl⟩
  obtain ⟨p, c, d1, d2⟩ := key
  unfold r8
  rw [d1, d2]
  simp only [bne_self_eq_false]
  rfl
end Go.Proofs.Ytbmagccjcccnaaa