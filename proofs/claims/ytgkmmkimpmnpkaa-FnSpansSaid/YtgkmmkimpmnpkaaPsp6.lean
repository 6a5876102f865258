/- FnSpans: the plain law. -/
import Derived.Test.YtgkmmkimpmnpkaaPsp5
namespace Go.Proofs.Ytgkmmkimpmnpkaa
open Go.Ab
theorem inner_x {A j q : Int} {s1 s2 w : Nat} (h1 : X (128 * A) s1) (h2 : X (128 * (A + 16 * j)) s2) (hw : X (q * 1024) w) (a1 : -1024 ≤ A) (a2 : A ≤ 1024) (j1 : 0 ≤ j) (j2 : j ≤ 32) (q1 : 0 ≤ q) (q2 : q ≤ 16) : X (128 * (A + q * j)) (fadd .f32 s1 (fmul .f32 w (fsub .f32 s2 s1))) ∧ A ≤ A + q * j ∧ A + q * j ≤ A + 16 * j := by
  have p0 : 0 ≤ q * j := Int.mul_nonneg q1 j1
  have p1 : q * j ≤ 16 * j := Int.mul_le_mul_of_nonneg_right q2 j1
  have d := h2.sub h1 (by omega) (by omega)
  have e : 128 * (A + 16 * j) - 128 * A = 2048 * j := by omega
  rw [e] at d
  have m : X (128 * (q * j)) (fmul .f32 w (fsub .f32 s2 s1)) := hw.mul d (by rw [show (q * 1024 * (2048 * j) : Int) = 1024 * 2048 * (q * j) by ac_rfl]; omega) (by omega) (by omega)
  have s := h1.add m (by omega) (by omega)
  rw [show 128 * A + 128 * (q * j) = 128 * (A + q * j) by omega] at s
  exact ⟨s, by omega, by omega⟩
/-- what is drawn -/
theorem draws {x0 x1 : List (List Int)} (k0 : RowsOk SU x0) (k1 : RowsOk SU x1) (l0 : x0.length ≤ 4096) (l1 : x1.length ≤ 4096) : ∃ s1 s2 t1 t2 : Nat, ∃ p q : Int, ∃ A B N C D M : Int, r11 x0 = (0, s1, s2) ∧ r11 x1 = (0, t1, t2) ∧ r12 0 17 x1 = (0, q) ∧ r12 0 17 x0 = (0, p) ∧
    Two (128 * A) (128 * B) (128 * N) (128 * C) (128 * D) (128 * M) s1 s2 (fadd .f32 s1 (fmul .f32 (fdiv .f32 (ofInt .f32 q) 1098907648) (fsub .f32 s2 s1))) t1 t2 (fadd .f32 t1 (fmul .f32 (fdiv .f32 (ofInt .f32 p) 1098907648) (fsub .f32 t2 t1))) := by
  obtain ⟨k, j, s1, s2, hk, hj, e1, xa, xb⟩ := span_ok k0 l0
  obtain ⟨k', j', t1, t2, hk', hj', e2, xc, xd⟩ := span_ok k1 l1
  obtain ⟨q, hq, e3⟩ := at_ok k1
  obtain ⟨p, hp, e4⟩ := at_ok k0
  have wq := Xb.x (tabQ q hq)
  have wp := Xb.x (tabQ p hp)
  rw [show (((k : Nat) : Int) * 4096 - 131072) = 128 * (32 * (k : Int) - 1024) by omega] at xa
  rw [show (((k : Nat) : Int) * 4096 - 131072 + ((j : Nat) : Int) * 2048) = 128 * (32 * (k : Int) - 1024 + 16 * (j : Int)) by omega] at xb
  rw [show (((k' : Nat) : Int) * 4096 - 131072) = 128 * (32 * (k' : Int) - 1024) by omega] at xc
  rw [show (((k' : Nat) : Int) * 4096 - 131072 + ((j' : Nat) : Int) * 2048) = 128 * (32 * (k' : Int) - 1024 + 16 * (j' : Int)) by omega] at xd
  obtain ⟨x1', i1, i2⟩ := inner_x xa xb wq (by omega) (by omega) (by omega) (by omega) (by omega) (by omega)
  obtain ⟨x2', i3, i4⟩ := inner_x xc xd wp (by omega) (by omega) (by omega) (by omega) (by omega) (by omega)
  exact ⟨s1, s2, t1, t2, p, q, _, _, _, _, _, _, e1, e2, e3, e4, ⟨xa, xb, x1', xc, xd, x2', by omega, by omega, by omega, by omega, by omega, by omega, by omega, by omega⟩⟩
end Go.Proofs.Ytgkmmkimpmnpkaa
