/- The plain law of DropSpent: the whole. -/
import Derived.Test.YtbmagccjcccnaaaPd2d
namespace Go.Proofs.Ytbmagccjcccnaaa
open Go.Ab

theorem kept_len (rows : List (List Int)) (i k : Nat) : (kept rows i k).length ≤ k := by
  unfold kept
  rw [List.length_map]
  exact Nat.le_trans (List.length_filter_le _ _) (by simp)
theorem okRows {x0 x1 : Nat} {x2 x3 : Int} {x4 : Nat} {rows : List (List Int)} (h : okStove x0 x1 x2 x3 x4 rows = true) : ∀ i, i < rows.length → okW (rows.getD i []) = true := by
  unfold okStove at h
  simp only [Bool.and_eq_true] at h
  exact allN_true.1 h.1.1.1.1.1.1.1.1.2
noncomputable def ansD (rows : List (List Int)) : Nat × Int × List (List Int) := (1, IntKind.i64.wrap (((rows.length : Nat) : Int) - (((kept rows 0 rows.length).length : Nat) : Int)), kept rows 0 rows.length)
section
variable {rows : List (List Int)} {x0 x1 : Nat} {x2 x3 : Int} {x4 : Nat}
theorem dropS (h : RowsOk S18 rows) (hl : rows.length ≤ 1048576) (h1 : x1 < 4294967296) (h2 : -128 ≤ x2 ∧ x2 ≤ 127) (h4 : x4 < 4294967296) : r24 x0 x1 x2 x3 x4 rows = cond (okStove x0 x1 x2 x3 x4 rows) (ansD rows) (0, 0, []) := by
  unfold r24
  rw [validS h hl x0 x1 x2 x3 x4 h1 h2 h4]
  cases hk : okStove x0 x1 x2 x3 x4 rows with
  | false => rfl
  | true =>
    have e67 : (r67 x0 x1 x2 x3 x4 rows).1 = 0 := by
      unfold r67
      rw [show Nat.ble ((0 + rows.length) * 73) 140737488355328 = true from Nat.ble_eq_true_of_le (by omega)]; rfl
    have e : r24l0 (1000 + 0 + rows.length) 0 x0 x1 x2 x3 x4 0 0 0 x0 x1 x2 x3 x4 rows ([] : List (List Int)) = ansK [] (kept rows 0 rows.length) := filterS h hl (okRows hk) x0 x1 x2 x3 x4 0 0 0 x0 x1 x2 x3 x4 rows.length 0 _ [] (by omega) (by omega) (by simp)
    rw [e67, e]
    unfold ansD
    cases kept rows 0 rows.length with
    | nil => rfl
    | cons a l => rfl
theorem dropI (h : RowsOk S18 rows) (hl : rows.length ≤ 1048576) : r25 x0 x1 x2 x3 x4 rows = cond (okStove x0 x1 x2 x3 x4 rows) (ansD rows) (0, 0, []) := by
  unfold r25
  rw [validI hl x0 x1 x2 x3 x4]
  cases hk : okStove x0 x1 x2 x3 x4 rows with
  | false => rfl
  | true =>
    have e : r25l0 (1000 + rows.length + 0) ((rows.length : Nat) : Int) 0 x0 x1 x2 x3 x4 0 0 0 ([] : List (List Int)) rows = ansK [] (kept rows 0 rows.length) := filterI h hl x0 x1 x2 x3 x4 0 0 0 rows.length 0 _ [] (by omega) (by omega) (by simp)
    rw [e]
    unfold ansD
    cases kept rows 0 rows.length with
    | nil => rfl
    | cons a l => rfl
theorem markS (hl : rows.length ≤ 1048576) : r26 x0 x1 x2 x3 x4 1 rows = (0, ((1 + 18 * rows.length : Nat) : Int), marksN rows.length 1 0 rows) := by
  unfold r26
  rw [mark_eq hl]; rfl
theorem heldS (hl : rows.length ≤ 1048576) : r27b x0 x1 x2 x3 x4 1 (marksN rows.length 1 0 rows) = (0, ((1 + 18 * rows.length : Nat) : Int)) := by
  unfold r27b
  rw [held_eq hl]
  rw [show decide (((0, ((1 + 18 * rows.length : Nat) : Int)) : Nat × Int).2 < 0) = false from by rw [decide_eq_false_iff_not]; simp only; omega]
  rfl
theorem zero_same : r23 0 0 0 0 0 0 0 0 0 0 = true := by
  unfold r23
  simp [same_self]
end
theorem plain7 (x0 x1 : Nat) (x2 x3 : Int) (x4 : Nat) (rows : List (List Int)) (_ : FloatKind.f32.has x0) (h1' : FloatKind.f32.has x1) (h2' : IntKind.i8.min ≤ x2 ∧ x2 ≤ IntKind.i8.max) (_ : IntKind.i64.min ≤ x3 ∧ x3 ≤ IntKind.i64.max) (h4' : FloatKind.f32.has x4) (h : RowsOk S18 rows) (hl : rows.length ≤ 9223372036854775807) :
    r7 x0 x1 x2 x3 x4 rows = (0, true) := by
  have h1 := has32 h1'
  have h4 := has32 h4'
  have h2 : -128 ≤ x2 ∧ x2 ≤ 127 := by
    rw [show IntKind.i8.min = -128 from by decide, show IntKind.i8.max = 127 from by decide] at h2'; exact h2'
  unfold r7
  cases hs : decide (r19 x0 x1 x2 x3 x4 1048576 rows < 0) with
  | true => rfl
  | false =>
    have hl' := szS_eq x0 x1 x2 x3 x4 hs hl
    have e21 : r21 x0 x1 x2 x3 x4 rows = (0, rows) := by
      unfold r21
      rw [copy_eq h hl']; rfl
    have hkl : (kept rows 0 rows.length).length ≤ 1048576 := Nat.le_trans (kept_len _ _ _) hl'
    have d1 : decide ((((1 + 18 * rows.length : Nat) : Int)) < 0) = false := by rw [decide_eq_false_iff_not]; omega
    have d2 : decide ((((1 + 18 * (kept rows 0 rows.length).length : Nat) : Int)) < 0) = false := by rw [decide_eq_false_iff_not]; omega
    have d3 : r27 0 0 0 0 0 1 = 1 := rfl
    rw [e21]
    simp only [dropS h hl' h1 h2 h4, dropI h hl', stove_same hl', markS hl', zero_same]
    cases okStove x0 x1 x2 x3 x4 rows with
    | false =>
      simp only [cond_false, d1, d3]
      rfl
    | true =>
      simp only [cond_true, ansD, stove_same hkl, markS hkl, heldS hkl, d1, d2, bne_self_eq_false]
      rfl
end Go.Proofs.Ytbmagccjcccnaaa
